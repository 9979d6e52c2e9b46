-- printed by wip/myprint.py, a program that runs the kit's print.py patched in memory; hand-made contracts stand where that program has none. Not trusted: Lean checks it.
import Derived.Test.YtkehjekbglajhaaK1F0
import Derived.Test.YtkehjekbglajhaaK1F4
import Derived.Test.YtkehjekbglajhaaK1F8
namespace Go.Proofs.Ytkehjekbglajhaa.F
open Go.RowKit Go.Proofs.YtkehjekbglajhaaW.PrintWords Go.Proofs.YtkehjekbglajhaaW.PrintLast
set_option linter.unusedVariables false
set_option linter.unusedSimpArgs false

def spec_l2Goes.l0 : Nat → Int → Int → Int → Int → Int → Int → Int → Int → Int → List Int → Option (Bool)
 | 0, _, _, _, _, _, _, _, _, _, _ => none
 | k + 1, x1, x5, x433000, x433001, x433002, x433003, x433004, x433005, x433006, x433007 => if x5 < (x433007.length : Int) then (if 0 ≤ x5 then (if (rd x433007 x5) = x1 then (some true) else (spec_l2Goes.l0 k x1 (wrap64 (x5 + 1)) x433000 x433001 x433002 x433003 x433004 x433005 x433006 x433007)) else (none)) else (some false)
def spec_l2Goes.f (k : Nat) (a0_0 : Int) (a0_1 : Int) (a0_2 : Int) (a0_3 : Int) (a0_4 : Int) (a0_5 : Int) (a0_6 : Int) (l0_7 : List Int) (a1 : Int) : Option (Bool) := spec_l2Goes.l0 k a1 0 a0_0 a0_1 a0_2 a0_3 a0_4 a0_5 a0_6 l0_7
set_option maxHeartbeats 8000000 in
set_option maxRecDepth 100000 in
theorem spec_l2Goes.calls (k : Nat) (a0_0 : Int) (a0_1 : Int) (a0_2 : Int) (a0_3 : Int) (a0_4 : Int) (a0_5 : Int) (a0_6 : Int) (A0_7 : Option Addr) (c0_7 : Nat) (l0_7 : List Int) (a1 : Int) (r : Bool) (w : World) (hr0_7 : Kd.C (Kd.int .i64) w A0_7 l0_7.length l0_7) (hc0_7 : l0_7.length ≤ c0_7) (h : spec_l2Goes.f k a0_0 a0_1 a0_2 a0_3 a0_4 a0_5 a0_6 l0_7 a1 = some r) :
  Calls Try.prog 82 #[.agg #[.int .i64 a0_0, .int .i64 a0_1, .int .i64 a0_2, .int .i64 a0_3, .int .i64 a0_4, .int .i64 a0_5, .int .i64 a0_6, .slice A0_7 l0_7.length c0_7], .int .i64 a1] w fun e w' => e = .returned (.bool r) ∧ Below w.heap.size w w' := by
 have hu68 := Try.underlying68
 have HR0_7 := Aside0.mk hr0_7
 have HC0_7 := Aside0.mk hc0_7
 clear hr0_7 hc0_7
 have HB := Aside0.mk (Below.refl w.heap.size w)
 have H : (spec_l2Goes.l0 k a1 0 a0_0 a0_1 a0_2 a0_3 a0_4 a0_5 a0_6 l0_7) = some r := h
 clear h
 have H' := Aside0.mk H
 clear H
 go_enter Try.func82, Try.ntmps82
 go_wp2_with (first | ((with_reducible refine gate_dst (N := 2) rfl ?_); refine box_event ?hg (N := 2) ?hd (cs := #[.int .i64 a0_0, .int .i64 a0_1, .int .i64 a0_2, .int .i64 a0_3, .int .i64 a0_4, .int .i64 a0_5, .int .i64 a0_6, .slice A0_7 l0_7.length c0_7]) (t := 68) ?hr ?_; (case hd => rfl); (case hg => rfl); (case hr => first | (go_simp; done) | (go_simp; rfl)); intro gb432 hg w3 hbox hb; have n_ := boxed (bel HB.out) hb hbox hg; clear HB hb hbox hg; obtain ⟨HB, BK432, GW432, GE432⟩ := n_))
 go_loopg [5] k (fun kq v5 w' => ∃ (x5_1 : Int), v5 = .int .i64 x5_1 ∧ Aside0 (spec_l2Goes.l0 kq a1 x5_1 a0_0 a0_1 a0_2 a0_3 a0_4 a0_5 a0_6 l0_7 = some r) ∧ Aside0 (kq ≤ k) ∧ Aside0 (w'.heap[gb432]? = some (.cells #[.int .i64 a0_0, .int .i64 a0_1, .int .i64 a0_2, .int .i64 a0_3, .int .i64 a0_4, .int .i64 a0_5, .int .i64 a0_6, (.slice A0_7 l0_7.length c0_7)] 68 (0, 0))) ∧ Aside0 (Below w.heap.size w w'))
 case atStart => exact ⟨(0), (by first | rfl | (simp; done) | (simp [*]; done)), H', ⟨Nat.le_refl _⟩, ⟨by (with_reducible repeat (first | refine blk_drewN ?_ _ | refine blk_drew ?_ | refine blk_alloc ?_ _)); exact BK432.out⟩, ⟨by repeat (first | (with_reducible first | exact HB.out | apply below_alloc | apply pw_below_drewN | apply below_drew1 | refine below_set ?_ GE432.out) | exact HB.out)⟩⟩
 case round =>
  clear H'
  obtain ⟨x5_1, rfl, HA, HK1, BK432, HB⟩ := hrel
  cases gk with
  | zero => exact absurd HA.out (by simp [spec_l2Goes.l0])
  | succ k1 =>
   have H := HA.out
   clear HA
   simp only [spec_l2Goes.l0] at H
   by_cases c4 : x5_1 < (l0_7.length : Int)
   ·rw [if_pos c4] at H
    have c4b0 : decide (x5_1 < (l0_7.length : Int)) = true := decide_eq_true c4
    clear c4
    by_cases c5 : 0 ≤ x5_1
    ·rw [if_pos c5] at H
     have c5b0 : decide (0 ≤ x5_1) = true := decide_eq_true c5
     clear c5
     by_cases c6 : (rd l0_7 x5_1) = a1
     ·rw [if_pos c6] at H
      have c6b0 : ((rd l0_7 x5_1) == a1) = true := beq_iff_eq.mpr c6
      have c6b1 : ((rd l0_7 x5_1) != a1) = false := bne_eq_false_iff_eq.mpr c6
      clear c6
      obtain rfl := Option.some.inj H
      have hcz7_0 : wr.cell? ⟨gb432, 0, none⟩ = some (.int .i64 a0_0) := (blk_cell BK432.out 0).trans rfl
      have hcz7_1 : wr.cell? ⟨gb432, 1, none⟩ = some (.int .i64 a0_1) := (blk_cell BK432.out 1).trans rfl
      have hcz7_2 : wr.cell? ⟨gb432, 2, none⟩ = some (.int .i64 a0_2) := (blk_cell BK432.out 2).trans rfl
      have hcz7_3 : wr.cell? ⟨gb432, 3, none⟩ = some (.int .i64 a0_3) := (blk_cell BK432.out 3).trans rfl
      have hcz7_4 : wr.cell? ⟨gb432, 4, none⟩ = some (.int .i64 a0_4) := (blk_cell BK432.out 4).trans rfl
      have hcz7_5 : wr.cell? ⟨gb432, 5, none⟩ = some (.int .i64 a0_5) := (blk_cell BK432.out 5).trans rfl
      have hcz7_6 : wr.cell? ⟨gb432, 6, none⟩ = some (.int .i64 a0_6) := (blk_cell BK432.out 6).trans rfl
      have hcz7_7 : wr.cell? ⟨gb432, 7, none⟩ = some (.slice A0_7 l0_7.length c0_7) := (blk_cell BK432.out 7).trans rfl
      have hfz7_0 := blk_frozen BK432.out 0
      have hfz7_1 := blk_frozen BK432.out 1
      have hfz7_2 := blk_frozen BK432.out 2
      have hfz7_3 := blk_frozen BK432.out 3
      have hfz7_4 := blk_frozen BK432.out 4
      have hfz7_5 := blk_frozen BK432.out 5
      have hfz7_6 := blk_frozen BK432.out 6
      have hfz7_7 := blk_frozen BK432.out 7
      have p433 : 0 ≤ (x5_1 : Int) := of_decide_eq_true (by first | (with_reducible assumption) | assumption)
      have q433 : x5_1 < (l0_7.length : Int) := of_decide_eq_true (by first | (with_reducible assumption) | assumption)
      obtain ⟨ad433, e433, hx433_0⟩ := Kd.at_int HR0_7.out x5_1 p433 q433
      cases e433
      replace hx433_0 := (HB.out.cell (World.block_lt_of_cell? w _ hx433_0)).trans hx433_0
      replace p433 := eq_true p433
      replace q433 := eq_true q433
      go_wp2
      go_ret
      exact ⟨by first | rfl | (simp [errW_none, errW_some] <;> rfl) | (simp [*, errW_none, errW_some] <;> rfl), by repeat (first | (with_reducible first | exact HB.out | apply below_alloc | apply pw_below_drewN | apply below_drew1 | refine below_set ?_ GE432.out) | exact HB.out)⟩
     ·rw [if_neg c6] at H
      have c6b0 : ((rd l0_7 x5_1) == a1) = false := beq_eq_false_iff_ne.mpr c6
      have c6b1 : ((rd l0_7 x5_1) != a1) = true := bne_iff_ne.mpr c6
      have H' := Aside0.mk H
      clear H
      have hcz8_0 : wr.cell? ⟨gb432, 0, none⟩ = some (.int .i64 a0_0) := (blk_cell BK432.out 0).trans rfl
      have hcz8_1 : wr.cell? ⟨gb432, 1, none⟩ = some (.int .i64 a0_1) := (blk_cell BK432.out 1).trans rfl
      have hcz8_2 : wr.cell? ⟨gb432, 2, none⟩ = some (.int .i64 a0_2) := (blk_cell BK432.out 2).trans rfl
      have hcz8_3 : wr.cell? ⟨gb432, 3, none⟩ = some (.int .i64 a0_3) := (blk_cell BK432.out 3).trans rfl
      have hcz8_4 : wr.cell? ⟨gb432, 4, none⟩ = some (.int .i64 a0_4) := (blk_cell BK432.out 4).trans rfl
      have hcz8_5 : wr.cell? ⟨gb432, 5, none⟩ = some (.int .i64 a0_5) := (blk_cell BK432.out 5).trans rfl
      have hcz8_6 : wr.cell? ⟨gb432, 6, none⟩ = some (.int .i64 a0_6) := (blk_cell BK432.out 6).trans rfl
      have hcz8_7 : wr.cell? ⟨gb432, 7, none⟩ = some (.slice A0_7 l0_7.length c0_7) := (blk_cell BK432.out 7).trans rfl
      have hfz8_0 := blk_frozen BK432.out 0
      have hfz8_1 := blk_frozen BK432.out 1
      have hfz8_2 := blk_frozen BK432.out 2
      have hfz8_3 := blk_frozen BK432.out 3
      have hfz8_4 := blk_frozen BK432.out 4
      have hfz8_5 := blk_frozen BK432.out 5
      have hfz8_6 := blk_frozen BK432.out 6
      have hfz8_7 := blk_frozen BK432.out 7
      have p433 : 0 ≤ (x5_1 : Int) := of_decide_eq_true (by first | (with_reducible assumption) | assumption)
      have q433 : x5_1 < (l0_7.length : Int) := of_decide_eq_true (by first | (with_reducible assumption) | assumption)
      obtain ⟨ad433, e433, hx433_0⟩ := Kd.at_int HR0_7.out x5_1 p433 q433
      cases e433
      replace hx433_0 := (HB.out.cell (World.block_lt_of_cell? w _ hx433_0)).trans hx433_0
      replace p433 := eq_true p433
      replace q433 := eq_true q433
      go_wp2
      go_roundg k1
      case measure => have := HK1.out; omega
      case rel => exact ⟨(wrap64 (x5_1 + 1)), (by first | rfl | (simp; done) | (simp [*]; done)), H', ⟨by have := HK1.out; omega⟩, ⟨by (with_reducible repeat (first | refine blk_drewN ?_ _ | refine blk_drew ?_ | refine blk_alloc ?_ _)); exact BK432.out⟩, ⟨by repeat (first | (with_reducible first | exact HB.out | apply below_alloc | apply pw_below_drewN | apply below_drew1 | refine below_set ?_ GE432.out) | exact HB.out)⟩⟩
    ·rw [if_neg c5] at H
     exact absurd H (by simp)
   ·rw [if_neg c4] at H
    have c4b0 : decide (x5_1 < (l0_7.length : Int)) = false := decide_eq_false c4
    clear c4
    obtain rfl := Option.some.inj H
    have hcz9_0 : wr.cell? ⟨gb432, 0, none⟩ = some (.int .i64 a0_0) := (blk_cell BK432.out 0).trans rfl
    have hcz9_1 : wr.cell? ⟨gb432, 1, none⟩ = some (.int .i64 a0_1) := (blk_cell BK432.out 1).trans rfl
    have hcz9_2 : wr.cell? ⟨gb432, 2, none⟩ = some (.int .i64 a0_2) := (blk_cell BK432.out 2).trans rfl
    have hcz9_3 : wr.cell? ⟨gb432, 3, none⟩ = some (.int .i64 a0_3) := (blk_cell BK432.out 3).trans rfl
    have hcz9_4 : wr.cell? ⟨gb432, 4, none⟩ = some (.int .i64 a0_4) := (blk_cell BK432.out 4).trans rfl
    have hcz9_5 : wr.cell? ⟨gb432, 5, none⟩ = some (.int .i64 a0_5) := (blk_cell BK432.out 5).trans rfl
    have hcz9_6 : wr.cell? ⟨gb432, 6, none⟩ = some (.int .i64 a0_6) := (blk_cell BK432.out 6).trans rfl
    have hcz9_7 : wr.cell? ⟨gb432, 7, none⟩ = some (.slice A0_7 l0_7.length c0_7) := (blk_cell BK432.out 7).trans rfl
    have hfz9_0 := blk_frozen BK432.out 0
    have hfz9_1 := blk_frozen BK432.out 1
    have hfz9_2 := blk_frozen BK432.out 2
    have hfz9_3 := blk_frozen BK432.out 3
    have hfz9_4 := blk_frozen BK432.out 4
    have hfz9_5 := blk_frozen BK432.out 5
    have hfz9_6 := blk_frozen BK432.out 6
    have hfz9_7 := blk_frozen BK432.out 7
    go_wp2
    go_ret
    exact ⟨by first | rfl | (simp [errW_none, errW_some] <;> rfl) | (simp [*, errW_none, errW_some] <;> rfl), by repeat (first | (with_reducible first | exact HB.out | apply below_alloc | apply pw_below_drewN | apply below_drew1 | refine below_set ?_ GE432.out) | exact HB.out)⟩

mutual
def spec_FlowPreds.l0 : Nat → List (List Int) → List Bool → Int → List (S68) → Option ((List (List Int)))
 | 0, _, _, _, _ => none
 | k + 1, x3, x4, x5, x435000 => if x5 < (x435000.length : Int) then (spec_FlowPreds.l1 k x3 x4 x5 (([] : List Int)) 0 x435000) else (some x3)
def spec_FlowPreds.l1 : Nat → List (List Int) → List Bool → Int → List Int → Int → List (S68) → Option ((List (List Int)))
 | 0, _, _, _, _, _, _ => none
 | k + 1, x3, x4, x5, x6, x7, x435000 => if x7 < (x435000.length : Int) then (if 0 ≤ x7 then (if x7 < (x4.length : Int) then (if rdOf false x4 x7 = true then ((spec_l2Goes.f k ((rd_T68 x435000 x7).f0) ((rd_T68 x435000 x7).f1) ((rd_T68 x435000 x7).f2) ((rd_T68 x435000 x7).f3.f0) ((rd_T68 x435000 x7).f3.f1) ((rd_T68 x435000 x7).f4.f0) ((rd_T68 x435000 x7).f4.f1) ((rd_T68 x435000 x7).f5) x5).bind fun t447 => (if t447 = true then (if x6.length < 17592186044416 then (spec_FlowPreds.l1 k x3 x4 x5 (x6 ++ [x7]) (wrap64 (x7 + 1)) x435000) else (none)) else (spec_FlowPreds.l1 k x3 x4 x5 x6 (wrap64 (x7 + 1)) x435000))) else (spec_FlowPreds.l1 k x3 x4 x5 x6 (wrap64 (x7 + 1)) x435000)) else (none)) else (none)) else (if x3.length < 5864062014805 then (spec_FlowPreds.l0 k (x3 ++ [x6]) x4 (wrap64 (x5 + 1)) x435000) else (none))
end
def spec_FlowPreds.f (k : Nat) (l0_0 : List (S68)) : Option ((List (List Int))) := (some (([] : List (List Int)) : List (List Int))).bind fun y435 => ((spec_ProgOk.f k l0_0).bind fun t438 => (if t438 = true then ((spec_FlowReach.f k l0_0).bind fun t439 => (spec_FlowPreds.l0 k y435 t439 0 l0_0)) else (some y435)))
set_option maxHeartbeats 8000000 in
set_option maxRecDepth 100000 in
theorem spec_FlowPreds.calls (k : Nat) (A0_0 : Option Addr) (c0_0 : Nat) (l0_0 : List (S68)) (r : List (List Int)) (w : World) (hr0_0 : Kd.C k68 w A0_0 l0_0.length l0_0) (hc0_0 : l0_0.length ≤ c0_0) (h : spec_FlowPreds.f k l0_0 = some r) :
  Calls Try.prog 36 #[.agg #[.slice A0_0 l0_0.length c0_0]] w fun e w' => ∃ v0_ : Value, e = .returned (v0_) ∧ Kd.S (Kd.slice 3 (Kd.int .i64)) 60 w' w.heap.size (fun _ => True) v0_ r ∧ Below w.heap.size w w' := by
 have hu29 := Try.underlying29
 have hu68 := Try.underlying68
 have HR0_0 := Aside0.mk hr0_0
 have HC0_0 := Aside0.mk hc0_0
 clear hr0_0 hc0_0
 have HB := Aside0.mk (Below.refl w.heap.size w)
 have H : ((some (([] : List (List Int)) : List (List Int))).bind fun y435 => ((spec_ProgOk.f k l0_0).bind fun t438 => (if t438 = true then ((spec_FlowReach.f k l0_0).bind fun t439 => (spec_FlowPreds.l0 k y435 t439 0 l0_0)) else (some y435)))) = some r := h
 clear h
 obtain ⟨y435, hy435⟩ : ∃ y_ : List (List Int), y_ = (([] : List (List Int))) := ⟨_, rfl⟩
 replace H : ((spec_ProgOk.f k l0_0).bind fun t438 => (if t438 = true then ((spec_FlowReach.f k l0_0).bind fun t439 => (spec_FlowPreds.l0 k y435 t439 0 l0_0)) else (some y435))) = some r := by first | (rw [hy435]; with_reducible exact H) | (have H2_ := (Option.bind_some _ _).symm.trans H; rw [hy435]; with_reducible exact H2_) | (have H2_ := (Option.bind_some _ _).symm.trans H; with_reducible exact H2_) | with_reducible exact H | (rw [hy435]; exact H) | exact H
 have Ny435 := Aside0.mk hy435
 clear hy435
 replace H := Option.bind_eq_some_iff.mp H
 obtain ⟨t438, A20, H⟩ := H
 replace H : (if t438 = true then ((spec_FlowReach.f k l0_0).bind fun t439 => (spec_FlowPreds.l0 k y435 t439 0 l0_0)) else (some y435)) = some r := H
 have A2 := Aside0.mk A20
 clear A20
 by_cases c3 : t438 = true
 ·subst c3
  have H1 : ((spec_FlowReach.f k l0_0).bind fun t439 => (spec_FlowPreds.l0 k y435 t439 0 l0_0)) = some r := by rw [if_pos rfl] at H; exact H
  clear H
  have H := H1
  clear H1
  replace H := Option.bind_eq_some_iff.mp H
  obtain ⟨t439, A40, H⟩ := H
  replace H : (spec_FlowPreds.l0 k y435 t439 0 l0_0) = some r := H
  have A4 := Aside0.mk A40
  clear A40
  have H' := Aside0.mk H
  clear H
  go_enter Try.func36, Try.ntmps36
  go_wp2_with (first | ((with_reducible refine gate_dst (N := 1) rfl ?_); refine box_event ?hg (N := 1) ?hd (cs := #[.slice A0_0 l0_0.length c0_0]) (t := 29) ?hr ?_; (case hd => rfl); (case hg => rfl); (case hr => first | (go_simp; done) | (go_simp; rfl)); intro gb434 hg w5 hbox hb; have n_ := boxed (bel HB.out) hb hbox hg; clear HB hb hbox hg; obtain ⟨HB, BK434, GW434, GE434⟩ := n_) | ((with_reducible refine gate_dst (N := 8) rfl ?_); refine Kd.S_lit (Kd.slice 3 (Kd.int .i64)) _ 60 ?hg (N := 8) ?hd (xs := ([] : List (List Int))) (inner := []) (ok := fun _ => True) (okp := fun _ => True) ?hr ?hp (fun _ hk => hk) trivial (Below.refl _ _) (Nat.le_refl _) (by simp) ?_; (case hd => rfl); (case hg => rfl); (case hr => first | (go_simp; done) | (go_simp; rfl)); (case hp => exact (Reps.none _ _)); intro v436 w6 ho7 hb hg_ hnew_; clear hg_ hnew_; (first | rw [← Ny435.out] at ho7 | (simp only [Int.reduceToNat] at ho7; rw [← Ny435.out] at ho7)); have n0_ := Aside0.mk (Kd.S_lower ho7 (below_size (by repeat (first | (with_reducible first | exact HB.out | apply below_alloc | apply pw_below_drewN | apply below_drew1 | refine below_set ?_ GE434.out) | exact HB.out)))); have n1_ := Aside0.mk (blk_below (g := gb434) (o := .cells #[.slice A0_0 l0_0.length c0_0] 29 (0, 0)) (by (with_reducible repeat (first | refine blk_drewN ?_ _ | refine blk_drew ?_ | refine blk_alloc ?_ _)); exact BK434.out) hb); have n2_ := Aside0.mk (below_step (by repeat (first | (with_reducible first | exact HB.out | apply below_alloc | apply pw_below_drewN | apply below_drew1 | refine below_set ?_ GE434.out) | exact HB.out)) hb); clear BK434; clear HB; have HO437 := n0_; have BK434 := n1_; have HB := n2_; clear n0_ n1_ n2_; clear hb ho7; have hcz8_0 : w6.cell? ⟨gb434, 0, none⟩ = some (.slice A0_0 l0_0.length c0_0) := (blk_cell BK434.out 0).trans rfl) | ((with_reducible refine gate_callee (f := 60) rfl ?_); refine goesL_ (some 10) rfl rfl Try.func60 (by kernel_rfl) rfl #[.agg #[.slice A0_0 l0_0.length c0_0]] rfl (by (try simp only [List.map_toArray, List.map_cons, List.map_nil]); first | done | rfl | (simp only [List.length_drop, List.length_take]; rfl)) ?_; (with_reducible refine (spec_ProgOk.calls k _ _ l0_0 true _ ?side1 ?side2 A2.out).mono ?_); (case side1 => repeat (first | exact (Kd.C_below HR0_0.out HB.out) | (with_reducible refine Kd.C_alloc ?_ _) | (with_reducible refine Kd.C_drewN ?_ _) | (with_reducible refine Kd.C_drew ?_))); (case side2 => exact HC0_0.out); rintro e w9 ⟨rfl, hb⟩; refine ⟨_, rfl, ?_⟩; have n0_ := Aside0.mk (Kd.S_below (by (with_reducible repeat (first | apply Kd.S_alloc | apply Kd.S_drewN | apply Kd.S_drew)); exact HO437.out) hb); have n1_ := Aside0.mk (blk_below (g := gb434) (o := .cells #[.slice A0_0 l0_0.length c0_0] 29 (0, 0)) (by (with_reducible repeat (first | refine blk_drewN ?_ _ | refine blk_drew ?_ | refine blk_alloc ?_ _)); exact BK434.out) hb); have n2_ := Aside0.mk (below_step (by repeat (first | (with_reducible first | exact HB.out | apply below_alloc | apply pw_below_drewN | apply below_drew1 | refine below_set ?_ GE434.out) | exact HB.out)) hb); clear HO437; clear BK434; clear HB; have HO437 := n0_; have BK434 := n1_; have HB := n2_; clear n0_ n1_ n2_; (try clear hb); (try clear hb2); (try clear hk); (try clear hi); have hcz10_0 : w9.cell? ⟨gb434, 0, none⟩ = some (.slice A0_0 l0_0.length c0_0) := (blk_cell BK434.out 0).trans rfl) | ((with_reducible refine gate_callee (f := 20) rfl ?_); refine goesL_ (some 14) rfl rfl Try.func20 (by kernel_rfl) rfl #[.agg #[.slice A0_0 l0_0.length c0_0]] rfl (by (try simp only [List.map_toArray, List.map_cons, List.map_nil]); first | done | rfl | (simp only [List.length_drop, List.length_take]; rfl)) ?_; (with_reducible refine (spec_FlowReach.calls k _ _ l0_0 t439 _ ?side1 ?side2 A4.out).mono ?_); (case side1 => repeat (first | exact (Kd.C_below HR0_0.out HB.out) | (with_reducible refine Kd.C_alloc ?_ _) | (with_reducible refine Kd.C_drewN ?_ _) | (with_reducible refine Kd.C_drew ?_))); (case side2 => exact HC0_0.out); rintro e w11 ⟨v440, rfl, ho0, hb⟩; refine ⟨_, rfl, ?_⟩; have n0_ := Aside0.mk (Kd.S_below (by (with_reducible repeat (first | apply Kd.S_alloc | apply Kd.S_drewN | apply Kd.S_drew)); exact HO437.out) hb); have n1_ := Aside0.mk (Kd.R_lower ho0 (below_size (by repeat (first | (with_reducible first | exact HB.out | apply below_alloc | apply pw_below_drewN | apply below_drew1 | refine below_set ?_ GE434.out) | exact HB.out)))); have n2_ := Aside0.mk (blk_below (g := gb434) (o := .cells #[.slice A0_0 l0_0.length c0_0] 29 (0, 0)) (by (with_reducible repeat (first | refine blk_drewN ?_ _ | refine blk_drew ?_ | refine blk_alloc ?_ _)); exact BK434.out) hb); have n3_ := Aside0.mk (below_step (by repeat (first | (with_reducible first | exact HB.out | apply below_alloc | apply pw_below_drewN | apply below_drew1 | refine below_set ?_ GE434.out) | exact HB.out)) hb); clear HO437; clear BK434; clear HB; have HO437 := n0_; have HO441 := n1_; have BK434 := n2_; have HB := n3_; clear n0_ n1_ n2_ n3_; (try clear hb); (try clear hb2); (try clear hk); (try clear hi); (try clear ho0)))
  go_loopg [3, 5] k (fun kq v3 v5 w' => ∃ (x3_1 : List (List Int)) (x5_1 : Int), v5 = .int .i64 x5_1 ∧ Aside0 (spec_FlowPreds.l0 kq x3_1 t439 x5_1 l0_0 = some r) ∧ Aside0 (kq ≤ k) ∧ Aside0 (Kd.S (Kd.slice 3 (Kd.int .i64)) 60 w' w.heap.size (fun _ => True) v3 x3_1) ∧ Aside0 (Kd.R Kd.bool 4 w' w.heap.size (fun _ => True) v440 t439) ∧ Aside0 (w'.heap[gb434]? = some (.cells #[(.slice A0_0 l0_0.length c0_0)] 29 (0, 0))) ∧ Aside0 (Below w.heap.size w w'))
  case atStart => exact ⟨(y435), (0), (by first | rfl | (simp; done) | (simp [*]; done)), H', ⟨Nat.le_refl _⟩, ⟨by (with_reducible repeat (first | apply Kd.S_alloc | apply Kd.S_drewN | apply Kd.S_drew)); exact HO437.out⟩, ⟨by (with_reducible repeat (first | apply Kd.R_alloc | apply Kd.R_drewN | apply Kd.R_drew)); exact HO441.out⟩, ⟨by (with_reducible repeat (first | refine blk_drewN ?_ _ | refine blk_drew ?_ | refine blk_alloc ?_ _)); exact BK434.out⟩, ⟨by repeat (first | (with_reducible first | exact HB.out | apply below_alloc | apply pw_below_drewN | apply below_drew1 | refine below_set ?_ GE434.out) | exact HB.out)⟩⟩
  case round =>
   clear H'
   (try clear c3); (try clear hcz10_0); (try clear hcz8_0)
   obtain ⟨x3_1, x5_1, rfl, HA, HK1, HO_3, HO_4, BK434, HB⟩ := hrel
   cases gk with
   | zero => exact absurd HA.out (by simp [spec_FlowPreds.l0])
   | succ k1 =>
    have H := HA.out
    clear HA
    simp only [spec_FlowPreds.l0] at H
    by_cases c12 : x5_1 < (l0_0.length : Int)
    ·rw [if_pos c12] at H
     have c12b0 : decide (x5_1 < (l0_0.length : Int)) = true := decide_eq_true c12
     clear c12
     obtain ⟨y442, hy442⟩ : ∃ y_ : List Int, y_ = (([] : List Int)) := ⟨_, rfl⟩
     replace H : (spec_FlowPreds.l1 k1 x3_1 t439 x5_1 y442 0 l0_0) = some r := by first | (rw [hy442]; with_reducible exact H) | (have H2_ := (Option.bind_some _ _).symm.trans H; rw [hy442]; with_reducible exact H2_) | (have H2_ := (Option.bind_some _ _).symm.trans H; with_reducible exact H2_) | with_reducible exact H | (rw [hy442]; exact H) | exact H
     have Ny442 := Aside0.mk hy442
     clear hy442
     have H' := Aside0.mk H
     clear H
     have hcz13_0 : wr.cell? ⟨gb434, 0, none⟩ = some (.slice A0_0 l0_0.length c0_0) := (blk_cell BK434.out 0).trans rfl
     have hfz13_0 := blk_frozen BK434.out 0
     go_wp2_with (first | ((with_reducible refine gate_dst (N := 22) rfl ?_); refine Kd.R_lit (Kd.int .i64) _ 3 ?hg (N := 22) ?hd (xs := ([] : List Int)) (inner := []) (ok := fun _ => True) (okp := fun _ => True) ?hr ?hp (fun _ hk => hk) trivial (Below.refl _ _) (Nat.le_refl _) (by simp) ?_; (case hd => rfl); (case hg => rfl); (case hr => first | (go_simp; done) | (go_simp; rfl)); (case hp => exact (Reps.none _ _)); intro v443 w14 ho15 hb hg_ hnew_; clear hg_ hnew_; (first | rw [← Ny442.out] at ho15 | (simp only [Int.reduceToNat] at ho15; rw [← Ny442.out] at ho15)); have n0_ := Aside0.mk (Kd.S_elder' (by (with_reducible repeat (first | apply Kd.S_alloc | apply Kd.S_drewN | apply Kd.S_drew)); exact HO_3.out) (Kd.R_base ho15) hb); have n1_ := Aside0.mk (Kd.R_below (by (with_reducible repeat (first | apply Kd.R_alloc | apply Kd.R_drewN | apply Kd.R_drew)); exact HO_4.out) hb); have n2_ := Aside0.mk (Kd.R_lower ho15 (below_size (by repeat (first | (with_reducible first | exact HB.out | apply below_alloc | apply pw_below_drewN | apply below_drew1 | refine below_set ?_ GE434.out) | exact HB.out)))); have n3_ := Aside0.mk (blk_below (g := gb434) (o := .cells #[.slice A0_0 l0_0.length c0_0] 29 (0, 0)) (by (with_reducible repeat (first | refine blk_drewN ?_ _ | refine blk_drew ?_ | refine blk_alloc ?_ _)); exact BK434.out) hb); have n4_ := Aside0.mk (below_step (by repeat (first | (with_reducible first | exact HB.out | apply below_alloc | apply pw_below_drewN | apply below_drew1 | refine below_set ?_ GE434.out) | exact HB.out)) hb); clear HO_3; clear HO_4; clear BK434; clear HB; have HO_3 := n0_; have HO_4 := n1_; have HO444 := n2_; have BK434 := n3_; have HB := n4_; clear n0_ n1_ n2_ n3_ n4_; clear hb ho15))
     go_loopg [6, 7] k1 (fun kq v6 v7 w' => ∃ (x6_2 : List Int) (x7_2 : Int), v7 = .int .i64 x7_2 ∧ Aside0 (spec_FlowPreds.l1 kq x3_1 t439 x5_1 x6_2 x7_2 l0_0 = some r) ∧ Aside0 (kq ≤ k1) ∧ Aside0 (Kd.S (Kd.slice 3 (Kd.int .i64)) 60 w' w.heap.size (fun k_ => some k_ ≠ (v6 : Value).ownBlock) u3 x3_1) ∧ Aside0 (Kd.R Kd.bool 4 w' w.heap.size (fun _ => True) v440 t439) ∧ Aside0 (Kd.R (Kd.int .i64) 3 w' w.heap.size (fun _ => True) v6 x6_2) ∧ Aside0 (w'.heap[gb434]? = some (.cells #[(.slice A0_0 l0_0.length c0_0)] 29 (0, 0))) ∧ Aside0 (Below w.heap.size w w'))
     case atStart => exact ⟨(y442), (0), (by first | rfl | (simp; done) | (simp [*]; done)), H', ⟨Nat.le_refl _⟩, ⟨by (with_reducible repeat (first | apply Kd.S_alloc | apply Kd.S_drewN | apply Kd.S_drew)); exact Kd.S_mono HO_3.out (fun _ hk => hk.2)⟩, ⟨by (with_reducible repeat (first | apply Kd.R_alloc | apply Kd.R_drewN | apply Kd.R_drew)); exact HO_4.out⟩, ⟨by (with_reducible repeat (first | apply Kd.R_alloc | apply Kd.R_drewN | apply Kd.R_drew)); exact HO444.out⟩, ⟨by (with_reducible repeat (first | refine blk_drewN ?_ _ | refine blk_drew ?_ | refine blk_alloc ?_ _)); exact BK434.out⟩, ⟨by repeat (first | (with_reducible first | exact HB.out | apply below_alloc | apply pw_below_drewN | apply below_drew1 | refine below_set ?_ GE434.out) | exact HB.out)⟩⟩
     case round =>
      clear H'
      (try clear c3); (try clear c12); (try clear c12b0); (try clear hcz10_0); (try clear hcz13_0); (try clear hcz8_0); (try clear hfz13_0)
      obtain ⟨x6_2, x7_2, rfl, HA, HK2, HO_3, HO_4, HO_6, BK434, HB⟩ := hrel
      cases gk with
      | zero => exact absurd HA.out (by simp [spec_FlowPreds.l1])
      | succ k2 =>
       have H := HA.out
       clear HA
       simp only [spec_FlowPreds.l1] at H
       by_cases c16 : x7_2 < (l0_0.length : Int)
       ·rw [if_pos c16] at H
        have c16b0 : decide (x7_2 < (l0_0.length : Int)) = true := decide_eq_true c16
        clear c16
        by_cases c17 : 0 ≤ x7_2
        ·rw [if_pos c17] at H
         have c17b0 : decide (0 ≤ x7_2) = true := decide_eq_true c17
         clear c17
         by_cases c18 : x7_2 < (t439.length : Int)
         ·rw [if_pos c18] at H
          have c18b0 : decide (x7_2 < (t439.length : Int)) = true := decide_eq_true c18
          clear c18
          obtain ⟨bq19, hbq19⟩ : ∃ b_ : Bool, b_ = (rdOf false t439 x7_2) := ⟨_, rfl⟩
          replace H : (if bq19 = true then ((spec_l2Goes.f k2 ((rd_T68 l0_0 x7_2).f0) ((rd_T68 l0_0 x7_2).f1) ((rd_T68 l0_0 x7_2).f2) ((rd_T68 l0_0 x7_2).f3.f0) ((rd_T68 l0_0 x7_2).f3.f1) ((rd_T68 l0_0 x7_2).f4.f0) ((rd_T68 l0_0 x7_2).f4.f1) ((rd_T68 l0_0 x7_2).f5) x5_1).bind fun t447 => (if t447 = true then (if x6_2.length < 17592186044416 then (spec_FlowPreds.l1 k2 x3_1 t439 x5_1 (x6_2 ++ [x7_2]) (wrap64 (x7_2 + 1)) l0_0) else (none)) else (spec_FlowPreds.l1 k2 x3_1 t439 x5_1 x6_2 (wrap64 (x7_2 + 1)) l0_0))) else (spec_FlowPreds.l1 k2 x3_1 t439 x5_1 x6_2 (wrap64 (x7_2 + 1)) l0_0)) = some r := by rw [← hbq19] at H; exact H
          have Nbq19 := Aside0.mk hbq19
          clear hbq19
          by_cases c20 : bq19 = true
          ·subst c20
           have H1 : ((spec_l2Goes.f k2 ((rd_T68 l0_0 x7_2).f0) ((rd_T68 l0_0 x7_2).f1) ((rd_T68 l0_0 x7_2).f2) ((rd_T68 l0_0 x7_2).f3.f0) ((rd_T68 l0_0 x7_2).f3.f1) ((rd_T68 l0_0 x7_2).f4.f0) ((rd_T68 l0_0 x7_2).f4.f1) ((rd_T68 l0_0 x7_2).f5) x5_1).bind fun t447 => (if t447 = true then (if x6_2.length < 17592186044416 then (spec_FlowPreds.l1 k2 x3_1 t439 x5_1 (x6_2 ++ [x7_2]) (wrap64 (x7_2 + 1)) l0_0) else (none)) else (spec_FlowPreds.l1 k2 x3_1 t439 x5_1 x6_2 (wrap64 (x7_2 + 1)) l0_0))) = some r := by rw [if_pos rfl] at H; exact H
           clear H
           have H := H1
           clear H1
           replace H := Option.bind_eq_some_iff.mp H
           obtain ⟨t447, A210, H⟩ := H
           replace H : (if t447 = true then (if x6_2.length < 17592186044416 then (spec_FlowPreds.l1 k2 x3_1 t439 x5_1 (x6_2 ++ [x7_2]) (wrap64 (x7_2 + 1)) l0_0) else (none)) else (spec_FlowPreds.l1 k2 x3_1 t439 x5_1 x6_2 (wrap64 (x7_2 + 1)) l0_0)) = some r := H
           have A21 := Aside0.mk A210
           clear A210
           by_cases c22 : t447 = true
           ·subst c22
            have H1 : (if x6_2.length < 17592186044416 then (spec_FlowPreds.l1 k2 x3_1 t439 x5_1 (x6_2 ++ [x7_2]) (wrap64 (x7_2 + 1)) l0_0) else (none)) = some r := by rw [if_pos rfl] at H; exact H
            clear H
            have H := H1
            clear H1
            by_cases c23 : x6_2.length < 17592186044416
            ·rw [if_pos c23] at H
             have LMc23 := Aside0.mk c23
             clear c23
             obtain ⟨y448, hy448⟩ : ∃ y_ : List Int, y_ = (x6_2 ++ [x7_2]) := ⟨_, rfl⟩
             replace H : (spec_FlowPreds.l1 k2 x3_1 t439 x5_1 y448 (wrap64 (x7_2 + 1)) l0_0) = some r := by first | (rw [hy448]; with_reducible exact H) | (have H2_ := (Option.bind_some _ _).symm.trans H; rw [hy448]; with_reducible exact H2_) | (have H2_ := (Option.bind_some _ _).symm.trans H; with_reducible exact H2_) | with_reducible exact H | (rw [hy448]; exact H) | exact H
             have Ny448 := Aside0.mk hy448
             clear hy448
             have H' := Aside0.mk H
             clear H
             have hcz24_0 : wr.cell? ⟨gb434, 0, none⟩ = some (.slice A0_0 l0_0.length c0_0) := (blk_cell BK434.out 0).trans rfl
             have hfz24_0 := blk_frozen BK434.out 0
             obtain ⟨Ao25, co25, eo25⟩ := Kd.R_slice HO_4.out
             subst eo25
             have p445 : 0 ≤ (x7_2 : Int) := of_decide_eq_true (by first | (with_reducible assumption) | assumption)
             have q445 : x7_2 < (t439.length : Int) := of_decide_eq_true (by first | (with_reducible assumption) | assumption)
             try (obtain ⟨Av_, cv_, ev_⟩ := Kd.R_slice HO_4.out; subst ev_)
             obtain ⟨ad445, e445, hx445_0⟩ := Kd.at_bool (Kd.R_reads' HO_4.out).2.2 x7_2 p445 q445
             (try rw [← Nbq19.out] at hx445_0)
             cases e445
             replace p445 := eq_true p445
             replace q445 := eq_true q445
             have p446 : 0 ≤ (x7_2 : Int) := of_decide_eq_true (by first | (with_reducible assumption) | assumption)
             have q446 : x7_2 < (l0_0.length : Int) := of_decide_eq_true (by first | (with_reducible assumption) | assumption)
             obtain ⟨ad446, A446_7, c446_7, e446, hx446_0, hx446_1, hx446_2, hx446_3, hx446_4, hx446_5, hx446_6, hx446_7, hl446_7, hi446_7⟩ := at_T68 HR0_0.out x7_2 p446 q446
             cases e446
             replace hx446_0 := (HB.out.cell (World.block_lt_of_cell? w _ hx446_0)).trans hx446_0
             replace hx446_1 := (HB.out.cell (World.block_lt_of_cell? w _ hx446_1)).trans hx446_1
             replace hx446_2 := (HB.out.cell (World.block_lt_of_cell? w _ hx446_2)).trans hx446_2
             replace hx446_3 := (HB.out.cell (World.block_lt_of_cell? w _ hx446_3)).trans hx446_3
             replace hx446_4 := (HB.out.cell (World.block_lt_of_cell? w _ hx446_4)).trans hx446_4
             replace hx446_5 := (HB.out.cell (World.block_lt_of_cell? w _ hx446_5)).trans hx446_5
             replace hx446_6 := (HB.out.cell (World.block_lt_of_cell? w _ hx446_6)).trans hx446_6
             replace hx446_7 := (HB.out.cell (World.block_lt_of_cell? w _ hx446_7)).trans hx446_7
             have HR446_7 := Aside0.mk hi446_7
             have HC446_7 := Aside0.mk hl446_7
             clear hi446_7 hl446_7
             replace p446 := eq_true p446
             replace q446 := eq_true q446
             go_wp2_with (first | (go_at_call 82; (with_reducible refine (spec_l2Goes.calls k2 ((rd_T68 l0_0 x7_2).f0) ((rd_T68 l0_0 x7_2).f1) ((rd_T68 l0_0 x7_2).f2) ((rd_T68 l0_0 x7_2).f3.f0) ((rd_T68 l0_0 x7_2).f3.f1) ((rd_T68 l0_0 x7_2).f4.f0) ((rd_T68 l0_0 x7_2).f4.f1) _ _ ((rd_T68 l0_0 x7_2).f5) x5_1 true _ ?side1 ?side2 A21.out).mono ?_); (case side1 => repeat (first | exact (Kd.C_below HR446_7.out HB.out) | (with_reducible refine Kd.C_alloc ?_ _) | (with_reducible refine Kd.C_drewN ?_ _) | (with_reducible refine Kd.C_drew ?_))); (case side2 => exact HC446_7.out); rintro e w26 ⟨rfl, hb⟩; have n0_ := Aside0.mk (Kd.S_below (by (with_reducible repeat (first | apply Kd.S_alloc | apply Kd.S_drewN | apply Kd.S_drew)); exact HO_3.out) hb); have n1_ := Aside0.mk (Kd.R_below (by (with_reducible repeat (first | apply Kd.R_alloc | apply Kd.R_drewN | apply Kd.R_drew)); exact HO_4.out) hb); have n2_ := Aside0.mk (Kd.R_below (by (with_reducible repeat (first | apply Kd.R_alloc | apply Kd.R_drewN | apply Kd.R_drew)); exact HO_6.out) hb); have n3_ := Aside0.mk (blk_below (g := gb434) (o := .cells #[.slice (some ad446) l0_0.length c0_0] 29 (0, 0)) (by (with_reducible repeat (first | refine blk_drewN ?_ _ | refine blk_drew ?_ | refine blk_alloc ?_ _)); exact BK434.out) hb); have n4_ := Aside0.mk (below_step (by repeat (first | (with_reducible first | exact HB.out | apply below_alloc | apply pw_below_drewN | apply below_drew1 | refine below_set ?_ GE434.out) | exact HB.out)) hb); clear HO_3; clear HO_4; clear HO_6; clear BK434; clear HB; have HO_3 := n0_; have HO_4 := n1_; have HO_6 := n2_; have BK434 := n3_; have HB := n4_; clear n0_ n1_ n2_ n3_ n4_; (try clear hb); (try clear hb2); (try clear hk); (try clear hi)) | ((with_reducible refine gate_builtin (b := .append) (xs := #[.tmp 43, .tmp 45]) rfl ?_); at_builtin; refine Kd.R_append (Kd.int .i64) (w0 := w) w.heap.size rfl (.tmp 43) (.tmp 45) 60 3 (.int .i64 0) 8 rfl Try.underlying60 info3 rfl (by decide) (by omega) u6 x6_2 x7_2 [.int .i64 x7_2] (fun _ => True) (fun _ => False) rfl rfl ?aP (fun _ hk => hk.elim) ?aF ?aO ?aB ?aS ?aL ?_; (case aP => exact rfl); (case aB => exact (by repeat (first | (with_reducible first | exact HB.out | apply below_alloc | apply pw_below_drewN | apply below_drew1 | refine below_set ?_ GE434.out) | exact HB.out))); (case aF => exact (fun _ _ => trivial)); (case aO => exact (by (with_reducible repeat (first | apply Kd.R_alloc | apply Kd.R_drewN | apply Kd.R_drew)); exact HO_6.out)); (case aS => exact (below_size (by repeat (first | (with_reducible first | exact HB.out | apply below_alloc | apply pw_below_drewN | apply below_drew1 | refine below_set ?_ GE434.out) | exact HB.out)))); (case aL => have := LMc23.out; omega); intro v449 w27 ho hb hg hat; rw [← Ny448.out] at ho; have n0_ := Aside0.mk (Kd.S_after (ok := (fun _ => True)) (by (with_reducible repeat (first | apply Kd.S_alloc | apply Kd.S_drewN | apply Kd.S_drew)); exact Kd.S_mono HO_3.out (fun _ hk => ⟨trivial, hk⟩)) hg hat); have n1_ := Aside0.mk (Kd.R_over' (by (with_reducible repeat (first | apply Kd.R_alloc | apply Kd.R_drewN | apply Kd.R_drew)); exact HO_4.out) (Kd.R_typed (by (with_reducible repeat (first | apply Kd.R_alloc | apply Kd.R_drewN | apply Kd.R_drew)); exact HO_6.out)) (by decide) hg); have n2_ := Aside0.mk (blk_grown (g := gb434) (o := .cells #[.slice (some ad446) l0_0.length c0_0] 29 (0, 0)) (by (with_reducible repeat (first | refine blk_drewN ?_ _ | refine blk_drew ?_ | refine blk_alloc ?_ _)); exact BK434.out) hg (Kd.R_ne HO_6.out BK434.out (by decide))); have n3_ := Aside0.mk (hb); have n4_ := Aside0.mk (ho); clear HO_3; clear HO_4; clear BK434; clear HB; clear HO_6; have HO_3 := n0_; have HO_4 := n1_; have BK434 := n2_; have HB := n3_; have HO450 := n4_; clear n0_ n1_ n2_ n3_ n4_; clear ho hb hg hat))
             go_roundg k2
             case measure => have := HK1.out; have := HK2.out; omega
             case rel => exact ⟨(y448), (wrap64 (x7_2 + 1)), (by first | rfl | (simp; done) | (simp [*]; done)), H', ⟨by have := HK1.out; have := HK2.out; omega⟩, ⟨by (with_reducible repeat (first | apply Kd.S_alloc | apply Kd.S_drewN | apply Kd.S_drew)); exact Kd.S_mono HO_3.out (fun _ hk => hk.2)⟩, ⟨by (with_reducible repeat (first | apply Kd.R_alloc | apply Kd.R_drewN | apply Kd.R_drew)); exact HO_4.out⟩, ⟨by (with_reducible repeat (first | apply Kd.R_alloc | apply Kd.R_drewN | apply Kd.R_drew)); exact HO450.out⟩, ⟨by (with_reducible repeat (first | refine blk_drewN ?_ _ | refine blk_drew ?_ | refine blk_alloc ?_ _)); exact BK434.out⟩, ⟨by repeat (first | (with_reducible first | exact HB.out | apply below_alloc | apply pw_below_drewN | apply below_drew1 | refine below_set ?_ GE434.out) | exact HB.out)⟩⟩
            ·rw [if_neg c23] at H
             exact absurd H (by simp)
           ·replace c22 := Bool.eq_false_iff.mpr c22
            subst c22
            have H1 : (spec_FlowPreds.l1 k2 x3_1 t439 x5_1 x6_2 (wrap64 (x7_2 + 1)) l0_0) = some r := by rw [if_neg (show ¬ (false = true) by decide)] at H; exact H
            clear H
            have H := H1
            clear H1
            have H' := Aside0.mk H
            clear H
            have hcz28_0 : wr.cell? ⟨gb434, 0, none⟩ = some (.slice A0_0 l0_0.length c0_0) := (blk_cell BK434.out 0).trans rfl
            have hfz28_0 := blk_frozen BK434.out 0
            obtain ⟨Ao29, co29, eo29⟩ := Kd.R_slice HO_4.out
            subst eo29
            have p445 : 0 ≤ (x7_2 : Int) := of_decide_eq_true (by first | (with_reducible assumption) | assumption)
            have q445 : x7_2 < (t439.length : Int) := of_decide_eq_true (by first | (with_reducible assumption) | assumption)
            try (obtain ⟨Av_, cv_, ev_⟩ := Kd.R_slice HO_4.out; subst ev_)
            obtain ⟨ad445, e445, hx445_0⟩ := Kd.at_bool (Kd.R_reads' HO_4.out).2.2 x7_2 p445 q445
            (try rw [← Nbq19.out] at hx445_0)
            cases e445
            replace p445 := eq_true p445
            replace q445 := eq_true q445
            have p446 : 0 ≤ (x7_2 : Int) := of_decide_eq_true (by first | (with_reducible assumption) | assumption)
            have q446 : x7_2 < (l0_0.length : Int) := of_decide_eq_true (by first | (with_reducible assumption) | assumption)
            obtain ⟨ad446, A446_7, c446_7, e446, hx446_0, hx446_1, hx446_2, hx446_3, hx446_4, hx446_5, hx446_6, hx446_7, hl446_7, hi446_7⟩ := at_T68 HR0_0.out x7_2 p446 q446
            cases e446
            replace hx446_0 := (HB.out.cell (World.block_lt_of_cell? w _ hx446_0)).trans hx446_0
            replace hx446_1 := (HB.out.cell (World.block_lt_of_cell? w _ hx446_1)).trans hx446_1
            replace hx446_2 := (HB.out.cell (World.block_lt_of_cell? w _ hx446_2)).trans hx446_2
            replace hx446_3 := (HB.out.cell (World.block_lt_of_cell? w _ hx446_3)).trans hx446_3
            replace hx446_4 := (HB.out.cell (World.block_lt_of_cell? w _ hx446_4)).trans hx446_4
            replace hx446_5 := (HB.out.cell (World.block_lt_of_cell? w _ hx446_5)).trans hx446_5
            replace hx446_6 := (HB.out.cell (World.block_lt_of_cell? w _ hx446_6)).trans hx446_6
            replace hx446_7 := (HB.out.cell (World.block_lt_of_cell? w _ hx446_7)).trans hx446_7
            have HR446_7 := Aside0.mk hi446_7
            have HC446_7 := Aside0.mk hl446_7
            clear hi446_7 hl446_7
            replace p446 := eq_true p446
            replace q446 := eq_true q446
            go_wp2_with (first | (go_at_call 82; (with_reducible refine (spec_l2Goes.calls k2 ((rd_T68 l0_0 x7_2).f0) ((rd_T68 l0_0 x7_2).f1) ((rd_T68 l0_0 x7_2).f2) ((rd_T68 l0_0 x7_2).f3.f0) ((rd_T68 l0_0 x7_2).f3.f1) ((rd_T68 l0_0 x7_2).f4.f0) ((rd_T68 l0_0 x7_2).f4.f1) _ _ ((rd_T68 l0_0 x7_2).f5) x5_1 false _ ?side1 ?side2 A21.out).mono ?_); (case side1 => repeat (first | exact (Kd.C_below HR446_7.out HB.out) | (with_reducible refine Kd.C_alloc ?_ _) | (with_reducible refine Kd.C_drewN ?_ _) | (with_reducible refine Kd.C_drew ?_))); (case side2 => exact HC446_7.out); rintro e w30 ⟨rfl, hb⟩; have n0_ := Aside0.mk (Kd.S_below (by (with_reducible repeat (first | apply Kd.S_alloc | apply Kd.S_drewN | apply Kd.S_drew)); exact HO_3.out) hb); have n1_ := Aside0.mk (Kd.R_below (by (with_reducible repeat (first | apply Kd.R_alloc | apply Kd.R_drewN | apply Kd.R_drew)); exact HO_4.out) hb); have n2_ := Aside0.mk (Kd.R_below (by (with_reducible repeat (first | apply Kd.R_alloc | apply Kd.R_drewN | apply Kd.R_drew)); exact HO_6.out) hb); have n3_ := Aside0.mk (blk_below (g := gb434) (o := .cells #[.slice (some ad446) l0_0.length c0_0] 29 (0, 0)) (by (with_reducible repeat (first | refine blk_drewN ?_ _ | refine blk_drew ?_ | refine blk_alloc ?_ _)); exact BK434.out) hb); have n4_ := Aside0.mk (below_step (by repeat (first | (with_reducible first | exact HB.out | apply below_alloc | apply pw_below_drewN | apply below_drew1 | refine below_set ?_ GE434.out) | exact HB.out)) hb); clear HO_3; clear HO_4; clear HO_6; clear BK434; clear HB; have HO_3 := n0_; have HO_4 := n1_; have HO_6 := n2_; have BK434 := n3_; have HB := n4_; clear n0_ n1_ n2_ n3_ n4_; (try clear hb); (try clear hb2); (try clear hk); (try clear hi)))
            go_roundg k2
            case measure => have := HK1.out; have := HK2.out; omega
            case rel => exact ⟨(x6_2), (wrap64 (x7_2 + 1)), (by first | rfl | (simp; done) | (simp [*]; done)), H', ⟨by have := HK1.out; have := HK2.out; omega⟩, ⟨by (with_reducible repeat (first | apply Kd.S_alloc | apply Kd.S_drewN | apply Kd.S_drew)); exact HO_3.out⟩, ⟨by (with_reducible repeat (first | apply Kd.R_alloc | apply Kd.R_drewN | apply Kd.R_drew)); exact HO_4.out⟩, ⟨by (with_reducible repeat (first | apply Kd.R_alloc | apply Kd.R_drewN | apply Kd.R_drew)); exact HO_6.out⟩, ⟨by (with_reducible repeat (first | refine blk_drewN ?_ _ | refine blk_drew ?_ | refine blk_alloc ?_ _)); exact BK434.out⟩, ⟨by repeat (first | (with_reducible first | exact HB.out | apply below_alloc | apply pw_below_drewN | apply below_drew1 | refine below_set ?_ GE434.out) | exact HB.out)⟩⟩
          ·replace c20 := Bool.eq_false_iff.mpr c20
           subst c20
           have H1 : (spec_FlowPreds.l1 k2 x3_1 t439 x5_1 x6_2 (wrap64 (x7_2 + 1)) l0_0) = some r := by rw [if_neg (show ¬ (false = true) by decide)] at H; exact H
           clear H
           have H := H1
           clear H1
           have H' := Aside0.mk H
           clear H
           have hcz31_0 : wr.cell? ⟨gb434, 0, none⟩ = some (.slice A0_0 l0_0.length c0_0) := (blk_cell BK434.out 0).trans rfl
           have hfz31_0 := blk_frozen BK434.out 0
           obtain ⟨Ao32, co32, eo32⟩ := Kd.R_slice HO_4.out
           subst eo32
           have p445 : 0 ≤ (x7_2 : Int) := of_decide_eq_true (by first | (with_reducible assumption) | assumption)
           have q445 : x7_2 < (t439.length : Int) := of_decide_eq_true (by first | (with_reducible assumption) | assumption)
           try (obtain ⟨Av_, cv_, ev_⟩ := Kd.R_slice HO_4.out; subst ev_)
           obtain ⟨ad445, e445, hx445_0⟩ := Kd.at_bool (Kd.R_reads' HO_4.out).2.2 x7_2 p445 q445
           (try rw [← Nbq19.out] at hx445_0)
           cases e445
           replace p445 := eq_true p445
           replace q445 := eq_true q445
           go_wp2
           go_roundg k2
           case measure => have := HK1.out; have := HK2.out; omega
           case rel => exact ⟨(x6_2), (wrap64 (x7_2 + 1)), (by first | rfl | (simp; done) | (simp [*]; done)), H', ⟨by have := HK1.out; have := HK2.out; omega⟩, ⟨by (with_reducible repeat (first | apply Kd.S_alloc | apply Kd.S_drewN | apply Kd.S_drew)); exact HO_3.out⟩, ⟨by (with_reducible repeat (first | apply Kd.R_alloc | apply Kd.R_drewN | apply Kd.R_drew)); exact HO_4.out⟩, ⟨by (with_reducible repeat (first | apply Kd.R_alloc | apply Kd.R_drewN | apply Kd.R_drew)); exact HO_6.out⟩, ⟨by (with_reducible repeat (first | refine blk_drewN ?_ _ | refine blk_drew ?_ | refine blk_alloc ?_ _)); exact BK434.out⟩, ⟨by repeat (first | (with_reducible first | exact HB.out | apply below_alloc | apply pw_below_drewN | apply below_drew1 | refine below_set ?_ GE434.out) | exact HB.out)⟩⟩
         ·rw [if_neg c18] at H
          exact absurd H (by simp)
        ·rw [if_neg c17] at H
         exact absurd H (by simp)
       ·rw [if_neg c16] at H
        have c16b0 : decide (x7_2 < (l0_0.length : Int)) = false := decide_eq_false c16
        clear c16
        by_cases c33 : x3_1.length < 5864062014805
        ·rw [if_pos c33] at H
         have LMc33 := Aside0.mk c33
         clear c33
         obtain ⟨y451, hy451⟩ : ∃ y_ : List (List Int), y_ = (x3_1 ++ [x6_2]) := ⟨_, rfl⟩
         replace H : (spec_FlowPreds.l0 k2 y451 t439 (wrap64 (x5_1 + 1)) l0_0) = some r := by first | (rw [hy451]; with_reducible exact H) | (have H2_ := (Option.bind_some _ _).symm.trans H; rw [hy451]; with_reducible exact H2_) | (have H2_ := (Option.bind_some _ _).symm.trans H; with_reducible exact H2_) | with_reducible exact H | (rw [hy451]; exact H) | exact H
         have Ny451 := Aside0.mk hy451
         clear hy451
         have H' := Aside0.mk H
         clear H
         have hcz34_0 : wr.cell? ⟨gb434, 0, none⟩ = some (.slice A0_0 l0_0.length c0_0) := (blk_cell BK434.out 0).trans rfl
         have hfz34_0 := blk_frozen BK434.out 0
         obtain ⟨Ao36, co36, eo36⟩ := Kd.R_slice HO_6.out
         subst eo36
         go_wp2_with (first | ((with_reducible refine gate_builtin (b := .append) (xs := #[.tmp 47, .tmp 49]) rfl ?_); at_builtin; refine Kd.S_append (Kd.slice 3 (Kd.int .i64)) (w0 := w) w.heap.size rfl (.tmp 47) (.tmp 49) 52 60 (.slice none 0 0) 24 rfl Try.underlying52 info60 rfl (by decide) (by omega) u3 x3_1 x6_2 [.slice Ao36 x6_2.length co36] (fun _ => True) (fun k_ => some k_ = (.slice Ao36 x6_2.length co36 : Value).ownBlock) rfl rfl ?aP (fun k_ hk_ => ((Kd.R_mono (ok' := fun k_ => ((fun _ => True)) k_ ∧ some k_ ≠ (u3 : Value).ownBlock) (Kd.R_apart' (HO_6.out) (Kd.S_typed HO_3.out) (by decide)) (fun k_ hk => ⟨trivial, hk.2⟩))).1 k_ hk_.symm) ?aF ?aO ?aB ?aS ?aL ?_; (case aP => exact Kd.M_row (Kd.R_mono (Kd.R_tight rfl (Kd.R_mono (ok' := fun k_ => ((fun _ => True)) k_ ∧ some k_ ≠ (u3 : Value).ownBlock) (Kd.R_apart' (HO_6.out) (Kd.S_typed HO_3.out) (by decide)) (fun k_ hk => ⟨trivial, hk.2⟩))) (fun _ h_ => h_))); (case aB => exact (by repeat (first | (with_reducible first | exact HB.out | apply below_alloc | apply pw_below_drewN | apply below_drew1 | refine below_set ?_ GE434.out) | exact HB.out))); (case aF => exact (fun _ _ => trivial)); (case aO => exact (by (with_reducible repeat (first | apply Kd.S_alloc | apply Kd.S_drewN | apply Kd.S_drew)); exact Kd.S_mono HO_3.out (fun k_ hk => ⟨trivial, fun e_ => hk e_⟩))); (case aS => exact (below_size (by repeat (first | (with_reducible first | exact HB.out | apply below_alloc | apply pw_below_drewN | apply below_drew1 | refine below_set ?_ GE434.out) | exact HB.out)))); (case aL => have := LMc33.out; omega); intro v452 w35 ho hb hg hat; rw [← Ny451.out] at ho; have n0_ := Aside0.mk (Kd.R_over' (by (with_reducible repeat (first | apply Kd.R_alloc | apply Kd.R_drewN | apply Kd.R_drew)); exact HO_4.out) (Kd.S_typed (by (with_reducible repeat (first | apply Kd.S_alloc | apply Kd.S_drewN | apply Kd.S_drew)); exact HO_3.out)) (by decide) hg); have n1_ := Aside0.mk (blk_grown (g := gb434) (o := .cells #[.slice A0_0 l0_0.length c0_0] 29 (0, 0)) (by (with_reducible repeat (first | refine blk_drewN ?_ _ | refine blk_drew ?_ | refine blk_alloc ?_ _)); exact BK434.out) hg (Kd.S_ne HO_3.out BK434.out (by decide))); have n2_ := Aside0.mk (hb); have n3_ := Aside0.mk (ho); clear HO_4; clear BK434; clear HB; clear HO_3; clear HO_6; have HO_4 := n0_; have BK434 := n1_; have HB := n2_; have HO453 := n3_; clear n0_ n1_ n2_ n3_; clear ho hb hg hat))
         go_roundg k2
         case measure => have := HK1.out; have := HK2.out; omega
         case rel => exact ⟨(y451), (wrap64 (x5_1 + 1)), (by first | rfl | (simp; done) | (simp [*]; done)), H', ⟨by have := HK1.out; have := HK2.out; omega⟩, ⟨by (with_reducible repeat (first | apply Kd.S_alloc | apply Kd.S_drewN | apply Kd.S_drew)); exact HO453.out⟩, ⟨by (with_reducible repeat (first | apply Kd.R_alloc | apply Kd.R_drewN | apply Kd.R_drew)); exact HO_4.out⟩, ⟨by (with_reducible repeat (first | refine blk_drewN ?_ _ | refine blk_drew ?_ | refine blk_alloc ?_ _)); exact BK434.out⟩, ⟨by repeat (first | (with_reducible first | exact HB.out | apply below_alloc | apply pw_below_drewN | apply below_drew1 | refine below_set ?_ GE434.out) | exact HB.out)⟩⟩
        ·rw [if_neg c33] at H
         exact absurd H (by simp)
    ·rw [if_neg c12] at H
     have c12b0 : decide (x5_1 < (l0_0.length : Int)) = false := decide_eq_false c12
     clear c12
     obtain rfl := Option.some.inj H
     have hcz37_0 : wr.cell? ⟨gb434, 0, none⟩ = some (.slice A0_0 l0_0.length c0_0) := (blk_cell BK434.out 0).trans rfl
     have hfz37_0 := blk_frozen BK434.out 0
     go_wp2
     go_ret
     exact ⟨_, by first | rfl | (simp [errW_none, errW_some] <;> rfl) | (simp [*, errW_none, errW_some] <;> rfl), by (with_reducible repeat (first | apply Kd.S_alloc | apply Kd.S_drewN | apply Kd.S_drew)); exact HO_3.out, by repeat (first | (with_reducible first | exact HB.out | apply below_alloc | apply pw_below_drewN | apply below_drew1 | refine below_set ?_ GE434.out) | exact HB.out)⟩
 ·replace c3 := Bool.eq_false_iff.mpr c3
  subst c3
  have H1 : (some y435) = some r := by rw [if_neg (show ¬ (false = true) by decide)] at H; exact H
  clear H
  have H := H1
  clear H1
  obtain rfl := Option.some.inj H
  go_enter Try.func36, Try.ntmps36
  go_wp2_with (first | ((with_reducible refine gate_dst (N := 1) rfl ?_); refine box_event ?hg (N := 1) ?hd (cs := #[.slice A0_0 l0_0.length c0_0]) (t := 29) ?hr ?_; (case hd => rfl); (case hg => rfl); (case hr => first | (go_simp; done) | (go_simp; rfl)); intro gb434 hg w38 hbox hb; have n_ := boxed (bel HB.out) hb hbox hg; clear HB hb hbox hg; obtain ⟨HB, BK434, GW434, GE434⟩ := n_) | ((with_reducible refine gate_dst (N := 8) rfl ?_); refine Kd.S_lit (Kd.slice 3 (Kd.int .i64)) _ 60 ?hg (N := 8) ?hd (xs := ([] : List (List Int))) (inner := []) (ok := fun _ => True) (okp := fun _ => True) ?hr ?hp (fun _ hk => hk) trivial (Below.refl _ _) (Nat.le_refl _) (by simp) ?_; (case hd => rfl); (case hg => rfl); (case hr => first | (go_simp; done) | (go_simp; rfl)); (case hp => exact (Reps.none _ _)); intro v436 w39 ho40 hb hg_ hnew_; clear hg_ hnew_; (first | rw [← Ny435.out] at ho40 | (simp only [Int.reduceToNat] at ho40; rw [← Ny435.out] at ho40)); have n0_ := Aside0.mk (Kd.S_lower ho40 (below_size (by repeat (first | (with_reducible first | exact HB.out | apply below_alloc | apply pw_below_drewN | apply below_drew1 | refine below_set ?_ GE434.out) | exact HB.out)))); have n1_ := Aside0.mk (blk_below (g := gb434) (o := .cells #[.slice A0_0 l0_0.length c0_0] 29 (0, 0)) (by (with_reducible repeat (first | refine blk_drewN ?_ _ | refine blk_drew ?_ | refine blk_alloc ?_ _)); exact BK434.out) hb); have n2_ := Aside0.mk (below_step (by repeat (first | (with_reducible first | exact HB.out | apply below_alloc | apply pw_below_drewN | apply below_drew1 | refine below_set ?_ GE434.out) | exact HB.out)) hb); clear BK434; clear HB; have HO437 := n0_; have BK434 := n1_; have HB := n2_; clear n0_ n1_ n2_; clear hb ho40; have hcz41_0 : w39.cell? ⟨gb434, 0, none⟩ = some (.slice A0_0 l0_0.length c0_0) := (blk_cell BK434.out 0).trans rfl) | ((with_reducible refine gate_callee (f := 60) rfl ?_); refine goesL_ (some 10) rfl rfl Try.func60 (by kernel_rfl) rfl #[.agg #[.slice A0_0 l0_0.length c0_0]] rfl (by (try simp only [List.map_toArray, List.map_cons, List.map_nil]); first | done | rfl | (simp only [List.length_drop, List.length_take]; rfl)) ?_; (with_reducible refine (spec_ProgOk.calls k _ _ l0_0 false _ ?side1 ?side2 A2.out).mono ?_); (case side1 => repeat (first | exact (Kd.C_below HR0_0.out HB.out) | (with_reducible refine Kd.C_alloc ?_ _) | (with_reducible refine Kd.C_drewN ?_ _) | (with_reducible refine Kd.C_drew ?_))); (case side2 => exact HC0_0.out); rintro e w42 ⟨rfl, hb⟩; refine ⟨_, rfl, ?_⟩; have n0_ := Aside0.mk (Kd.S_below (by (with_reducible repeat (first | apply Kd.S_alloc | apply Kd.S_drewN | apply Kd.S_drew)); exact HO437.out) hb); have n1_ := Aside0.mk (blk_below (g := gb434) (o := .cells #[.slice A0_0 l0_0.length c0_0] 29 (0, 0)) (by (with_reducible repeat (first | refine blk_drewN ?_ _ | refine blk_drew ?_ | refine blk_alloc ?_ _)); exact BK434.out) hb); have n2_ := Aside0.mk (below_step (by repeat (first | (with_reducible first | exact HB.out | apply below_alloc | apply pw_below_drewN | apply below_drew1 | refine below_set ?_ GE434.out) | exact HB.out)) hb); clear HO437; clear BK434; clear HB; have HO437 := n0_; have BK434 := n1_; have HB := n2_; clear n0_ n1_ n2_; (try clear hb); (try clear hb2); (try clear hk); (try clear hi)))
  go_ret
  exact ⟨_, by first | rfl | (simp [errW_none, errW_some] <;> rfl) | (simp [*, errW_none, errW_some] <;> rfl), by (with_reducible repeat (first | apply Kd.S_alloc | apply Kd.S_drewN | apply Kd.S_drew)); exact HO437.out, by repeat (first | (with_reducible first | exact HB.out | apply below_alloc | apply pw_below_drewN | apply below_drew1 | refine below_set ?_ GE434.out) | exact HB.out)⟩

def slices_Index_int_int.l0 : Nat → List Int → Int → Int → Int → Option (Int)
 | 0, _, _, _, _ => none
 | k + 1, x0, x1, x7, x8 => if x8 < x7 then (if 0 ≤ x8 then (if x8 < (x0.length : Int) then (if x1 = (rd x0 x8) then (some x8) else (slices_Index_int_int.l0 k x0 x1 x7 (wrap64 (x8 + 1)))) else (none)) else (none)) else (some (-1))
def slices_Index_int_int.f (k : Nat) (l0 : List Int) (a1 : Int) : Option (Int) := slices_Index_int_int.l0 k l0 a1 (l0.length : Int) 0
set_option maxHeartbeats 8000000 in
set_option maxRecDepth 100000 in
theorem slices_Index_int_int.calls (k : Nat) (A0 : Option Addr) (c0 : Nat) (l0 : List Int) (a1 : Int) (r : Int) (w : World) (hr0 : Kd.C (Kd.int .i64) w A0 l0.length l0) (hc0 : l0.length ≤ c0) (h : slices_Index_int_int.f k l0 a1 = some r) :
  Calls Try.prog 124 #[.slice A0 l0.length c0, .int .i64 a1] w fun e w' => e = .returned (.int .i64 r) ∧ Drawn0 w w' := by
 have HR0 := Aside0.mk hr0
 have HC0 := Aside0.mk hc0
 clear hr0 hc0
 have H : (slices_Index_int_int.l0 k l0 a1 (l0.length : Int) 0) = some r := h
 clear h
 have H' := Aside0.mk H
 clear H
 go_enter Try.func124, Try.ntmps124
 go_wp2
 go_loopg [8] k (fun kq v8 w' => ∃ (x8_1 : Int), v8 = .int .i64 x8_1 ∧ Aside0 (slices_Index_int_int.l0 kq l0 a1 (l0.length : Int) x8_1 = some r) ∧ Aside0 (kq ≤ k) ∧ Drawn0 w w')
 case atStart => exact ⟨(0), (by first | rfl | (simp; done) | (simp [*]; done)), H', ⟨Nat.le_refl _⟩, by repeat (first | exact Drawn0.refl _ | apply Drawn0.step)⟩
 case round =>
  clear H'
  obtain ⟨x8_1, rfl, HA, HK1, ⟨m1, rfl⟩⟩ := hrel
  cases gk with
  | zero => exact absurd HA.out (by simp [slices_Index_int_int.l0])
  | succ k1 =>
   have H := HA.out
   clear HA
   simp only [slices_Index_int_int.l0] at H
   by_cases c3 : x8_1 < (l0.length : Int)
   ·rw [if_pos c3] at H
    have c3b0 : decide (x8_1 < (l0.length : Int)) = true := decide_eq_true c3
    clear c3
    by_cases c4 : 0 ≤ x8_1
    ·rw [if_pos c4] at H
     have c4b0 : decide (0 ≤ x8_1) = true := decide_eq_true c4
     clear c4
     by_cases c5 : x8_1 < (l0.length : Int)
     ·rw [if_pos c5] at H
      have c5b0 : decide (x8_1 < (l0.length : Int)) = true := decide_eq_true c5
      clear c5
      by_cases c6 : a1 = (rd l0 x8_1)
      ·rw [if_pos c6] at H
       have c6b0 : (a1 == (rd l0 x8_1)) = true := beq_iff_eq.mpr c6
       have c6b1 : (a1 != (rd l0 x8_1)) = false := bne_eq_false_iff_eq.mpr c6
       clear c6
       obtain rfl := Option.some.inj H
       have p454 : 0 ≤ (x8_1 : Int) := of_decide_eq_true (by first | (with_reducible assumption) | assumption)
       have q454 : x8_1 < (l0.length : Int) := of_decide_eq_true (by first | (with_reducible assumption) | assumption)
       obtain ⟨ad454, e454, hx454_0⟩ := Kd.at_int HR0.out x8_1 p454 q454
       cases e454
       replace p454 := eq_true p454
       replace q454 := eq_true q454
       go_wp2
       go_ret
       exact ⟨by first | rfl | (simp; done) | (simp [*]; done), by repeat (first | exact Drawn0.refl _ | apply Drawn0.step)⟩
      ·rw [if_neg c6] at H
       have c6b0 : (a1 == (rd l0 x8_1)) = false := beq_eq_false_iff_ne.mpr c6
       have c6b1 : (a1 != (rd l0 x8_1)) = true := bne_iff_ne.mpr c6
       have H' := Aside0.mk H
       clear H
       have p454 : 0 ≤ (x8_1 : Int) := of_decide_eq_true (by first | (with_reducible assumption) | assumption)
       have q454 : x8_1 < (l0.length : Int) := of_decide_eq_true (by first | (with_reducible assumption) | assumption)
       obtain ⟨ad454, e454, hx454_0⟩ := Kd.at_int HR0.out x8_1 p454 q454
       cases e454
       replace p454 := eq_true p454
       replace q454 := eq_true q454
       go_wp2
       go_roundg k1
       case measure => have := HK1.out; omega
       case rel => exact ⟨(wrap64 (x8_1 + 1)), (by first | rfl | (simp; done) | (simp [*]; done)), H', ⟨by have := HK1.out; omega⟩, by repeat (first | exact Drawn0.refl _ | apply Drawn0.step)⟩
     ·rw [if_neg c5] at H
      exact absurd H (by simp)
    ·rw [if_neg c4] at H
     exact absurd H (by simp)
   ·rw [if_neg c3] at H
    have c3b0 : decide (x8_1 < (l0.length : Int)) = false := decide_eq_false c3
    clear c3
    obtain rfl := Option.some.inj H
    go_wp2
    go_ret
    exact ⟨by first | rfl | (simp; done) | (simp [*]; done), by repeat (first | exact Drawn0.refl _ | apply Drawn0.step)⟩

def slices_Contains_int_int.f (k : Nat) (l0 : List Int) (a1 : Int) : Option (Bool) := (slices_Index_int_int.f k l0 a1).bind fun t455 => (some (decide (t455 ≥ 0)))
set_option maxHeartbeats 8000000 in
set_option maxRecDepth 100000 in
theorem slices_Contains_int_int.calls (k : Nat) (A0 : Option Addr) (c0 : Nat) (l0 : List Int) (a1 : Int) (r : Bool) (w : World) (hr0 : Kd.C (Kd.int .i64) w A0 l0.length l0) (hc0 : l0.length ≤ c0) (h : slices_Contains_int_int.f k l0 a1 = some r) :
  Calls Try.prog 111 #[.slice A0 l0.length c0, .int .i64 a1] w fun e w' => e = .returned (.bool r) ∧ Drawn0 w w' := by
 have HR0 := Aside0.mk hr0
 have HC0 := Aside0.mk hc0
 clear hr0 hc0
 have H : ((slices_Index_int_int.f k l0 a1).bind fun t455 => (some (decide (t455 ≥ 0)))) = some r := h
 clear h
 replace H := Option.bind_eq_some_iff.mp H
 obtain ⟨t455, A30, H⟩ := H
 replace H : (some (decide (t455 ≥ 0))) = some r := H
 have A3 := Aside0.mk A30
 clear A30
 obtain rfl := Option.some.inj H
 go_enter Try.func111, Try.ntmps111
 go_wp2_with (first | ((with_reducible refine gate_callee (f := 124) rfl ?_); refine goesL_ (some 7) rfl rfl Try.func124 (by kernel_rfl) rfl #[.slice A0 l0.length c0, .int .i64 a1] rfl (by (try simp only [List.map_toArray, List.map_cons, List.map_nil]); first | done | rfl | (simp only [List.length_drop, List.length_take]; rfl)) ?_; (with_reducible refine (slices_Index_int_int.calls k _ _ l0 a1 t455 _ ?side1 ?side2 A3.out).mono ?_); (case side1 => repeat (first | exact HR0.out | (with_reducible refine Kd.C_alloc ?_ _) | (with_reducible refine Kd.C_drewN ?_ _) | (with_reducible refine Kd.C_drew ?_))); (case side2 => exact HC0.out); rintro e w' ⟨rfl, ⟨nd, rfl⟩⟩; refine ⟨_, rfl, ?_⟩))
 go_ret
 exact ⟨by first | rfl | (simp; done) | (simp [*]; done), by repeat (first | exact Drawn0.refl _ | apply Drawn0.step)⟩

mutual
def impl_Prog_preds.l0 : Nat → List (List Int) → List Bool → Int → Int → List (S68) → Option ((List (List Int)))
 | 0, _, _, _, _, _ => none
 | k + 1, x3, x13, x14, x15, x457000 => if x15 < x14 then (if 0 ≤ x15 then (if x15 < (x13.length : Int) then (if rdOf false x13 x15 = true then (if x15 < (x457000.length : Int) then (impl_Prog_preds.l1 k x3 x15 x13 x14 x15 ((rd_T68 x457000 x15).f5) (((rd_T68 x457000 x15).f5).length : Int) 0 x457000) else (none)) else (impl_Prog_preds.l0 k x3 x13 x14 (wrap64 (x15 + 1)) x457000)) else (none)) else (none)) else (some x3)
def impl_Prog_preds.l1 : Nat → List (List Int) → Int → List Bool → Int → Int → List Int → Int → Int → List (S68) → Option ((List (List Int)))
 | 0, _, _, _, _, _, _, _, _, _ => none
 | k + 1, x3, x4, x13, x14, x15, x27, x28, x29, x457000 => if x29 < x28 then (if 0 ≤ x29 then (if x29 < (x27.length : Int) then (if 0 ≤ (rd x27 x29) then (if (rd x27 x29) < (x3.length : Int) then ((slices_Contains_int_int.f k (rd_L2 x3 (rd x27 x29)) x4).bind fun t467 => (if t467 = true then (impl_Prog_preds.l1 k x3 x4 x13 x14 x15 x27 x28 (wrap64 (x29 + 1)) x457000) else (if (rd_L2 x3 (rd x27 x29)).length < 17592186044416 then (impl_Prog_preds.l1 k (x3.set ((rd x27 x29) : Int).toNat ((rd_L2 x3 (rd x27 x29)) ++ [x4])) x4 x13 x14 x15 x27 x28 (wrap64 (x29 + 1)) x457000) else (none)))) else (none)) else (none)) else (none)) else (none)) else (impl_Prog_preds.l0 k x3 x13 x14 (wrap64 (x15 + 1)) x457000)
end
def impl_Prog_preds.f (k : Nat) (l0_0 : List (S68)) : Option ((List (List Int))) := if 0 ≤ (l0_0.length : Int) then (if ((l0_0.length : Int) : Int).toNat ≤ 11728124029610 then ((impl_Prog_reach.f k l0_0).bind fun t460 => (impl_Prog_preds.l0 k (List.replicate ((l0_0.length : Int) : Int).toNat []) t460 (t460.length : Int) 0 l0_0)) else (none)) else (none)
set_option maxHeartbeats 8000000 in
set_option maxRecDepth 100000 in
theorem impl_Prog_preds.calls (k : Nat) (A0_0 : Option Addr) (c0_0 : Nat) (l0_0 : List (S68)) (r : List (List Int)) (w : World) (hr0_0 : Kd.C k68 w A0_0 l0_0.length l0_0) (hc0_0 : l0_0.length ≤ c0_0) (h : impl_Prog_preds.f k l0_0 = some r) :
  Calls Try.prog 83 #[.agg #[.slice A0_0 l0_0.length c0_0]] w fun e w' => ∃ v0_ : Value, e = .returned (v0_) ∧ Kd.S (Kd.slice 3 (Kd.int .i64)) 60 w' w.heap.size (fun _ => True) v0_ r ∧ Below w.heap.size w w' := by
 have hu29 := Try.underlying29
 have HR0_0 := Aside0.mk hr0_0
 have HC0_0 := Aside0.mk hc0_0
 clear hr0_0 hc0_0
 have HB := Aside0.mk (Below.refl w.heap.size w)
 have H : (if 0 ≤ (l0_0.length : Int) then (if ((l0_0.length : Int) : Int).toNat ≤ 11728124029610 then ((impl_Prog_reach.f k l0_0).bind fun t460 => (impl_Prog_preds.l0 k (List.replicate ((l0_0.length : Int) : Int).toNat []) t460 (t460.length : Int) 0 l0_0)) else (none)) else (none)) = some r := h
 clear h
 by_cases c2 : 0 ≤ (l0_0.length : Int)
 ·rw [if_pos c2] at H
  have c2b0 := eq_true c2
  have c2b1 : decide (0 ≤ (l0_0.length : Int)) = true := decide_eq_true c2
  clear c2
  by_cases c3 : ((l0_0.length : Int) : Int).toNat ≤ 11728124029610
  ·rw [if_pos c3] at H
   have c3b0 := eq_true c3
   have c3b1 : decide (((l0_0.length : Int) : Int).toNat ≤ 11728124029610) = true := decide_eq_true c3
   clear c3
   obtain ⟨y457, hy457⟩ : ∃ y_ : List (List Int), y_ = (List.replicate ((l0_0.length : Int) : Int).toNat []) := ⟨_, rfl⟩
   replace H : ((impl_Prog_reach.f k l0_0).bind fun t460 => (impl_Prog_preds.l0 k y457 t460 (t460.length : Int) 0 l0_0)) = some r := by first | (rw [hy457]; with_reducible exact H) | (have H2_ := (Option.bind_some _ _).symm.trans H; rw [hy457]; with_reducible exact H2_) | (have H2_ := (Option.bind_some _ _).symm.trans H; with_reducible exact H2_) | with_reducible exact H | (rw [hy457]; exact H) | exact H
   have Ny457 := Aside0.mk hy457
   clear hy457
   replace H := Option.bind_eq_some_iff.mp H
   obtain ⟨t460, A40, H⟩ := H
   replace H : (impl_Prog_preds.l0 k y457 t460 (t460.length : Int) 0 l0_0) = some r := H
   have A4 := Aside0.mk A40
   clear A40
   have H' := Aside0.mk H
   clear H
   go_enter Try.func83, Try.ntmps83
   go_wp2_with (first | ((with_reducible refine gate_dst (N := 1) rfl ?_); refine box_event ?hg (N := 1) ?hd (cs := #[.slice A0_0 l0_0.length c0_0]) (t := 29) ?hr ?_; (case hd => rfl); (case hg => rfl); (case hr => first | (go_simp; done) | (go_simp; rfl)); intro gb456 hg w5 hbox hb; have n_ := boxed (bel HB.out) hb hbox hg; clear HB hb hbox hg; obtain ⟨HB, BK456, GW456, GE456⟩ := n_; have hcz6_0 : w5.cell? ⟨gb456, 0, none⟩ = some (.slice A0_0 l0_0.length c0_0) := (blk_cell BK456.out 0).trans rfl; have hfz6_0 := blk_frozen BK456.out 0) | ((with_reducible refine gate_dst (N := 11) rfl ?_); refine Kd.S_make (Kd.slice 3 (Kd.int .i64)) _ 60 rfl (N := 11) rfl 52 _ _ rfl (l0_0.length : Int) rfl rfl Try.underlying52 (.slice none 0 0) 24 info60 rfl (by decide) (by omega) [] (ok := fun _ => True) (okp := fun _ => True) ⟨_, rfl, Kd.R_nil _ _ _ _ _⟩ (fun _ hk => hk) trivial (of_decide_eq_true (by first | (with_reducible assumption) | assumption)) (Nat.le_trans (Nat.mul_le_mul_right _ (of_decide_eq_true (by first | (with_reducible assumption) | assumption) : (l0_0.length : Int).toNat ≤ 11728124029610)) (by omega)) (Below.refl _ _) (Nat.le_refl _) ?_; intro v458 w7 ho8 hb hg_ hnew_; clear hg_ hnew_; (first | rw [← Ny457.out] at ho8 | (simp only [Int.reduceToNat] at ho8; rw [← Ny457.out] at ho8)); have n0_ := Aside0.mk (Kd.S_lower ho8 (below_size (by repeat (first | (with_reducible first | exact HB.out | apply below_alloc | apply pw_below_drewN | apply below_drew1 | refine below_set ?_ GE456.out) | exact HB.out)))); have n1_ := Aside0.mk (blk_below (g := gb456) (o := .cells #[.slice A0_0 l0_0.length c0_0] 29 (0, 0)) (by (with_reducible repeat (first | refine blk_drewN ?_ _ | refine blk_drew ?_ | refine blk_alloc ?_ _)); exact BK456.out) hb); have n2_ := Aside0.mk (below_step (by repeat (first | (with_reducible first | exact HB.out | apply below_alloc | apply pw_below_drewN | apply below_drew1 | refine below_set ?_ GE456.out) | exact HB.out)) hb); clear BK456; clear HB; have HO459 := n0_; have BK456 := n1_; have HB := n2_; clear n0_ n1_ n2_; clear hb ho8; have hcz9_0 : w7.cell? ⟨gb456, 0, none⟩ = some (.slice A0_0 l0_0.length c0_0) := (blk_cell BK456.out 0).trans rfl; have hfz9_0 := blk_frozen BK456.out 0) | ((with_reducible refine gate_callee (f := 65) rfl ?_); refine goesL_ (some 13) rfl rfl Try.func65 (by kernel_rfl) rfl #[.agg #[.slice A0_0 l0_0.length c0_0]] rfl (by (try simp only [List.map_toArray, List.map_cons, List.map_nil]); first | done | rfl | (simp only [List.length_drop, List.length_take]; rfl)) ?_; (with_reducible refine (impl_Prog_reach.calls k _ _ l0_0 t460 _ ?side1 ?side2 A4.out).mono ?_); (case side1 => repeat (first | exact (Kd.C_below HR0_0.out HB.out) | (with_reducible refine Kd.C_alloc ?_ _) | (with_reducible refine Kd.C_drewN ?_ _) | (with_reducible refine Kd.C_drew ?_))); (case side2 => exact HC0_0.out); rintro e w10 ⟨v461, rfl, ho0, hb⟩; refine ⟨_, rfl, ?_⟩; have n0_ := Aside0.mk (Kd.S_below (by (with_reducible repeat (first | apply Kd.S_alloc | apply Kd.S_drewN | apply Kd.S_drew)); exact HO459.out) hb); have n1_ := Aside0.mk (Kd.R_lower ho0 (below_size (by repeat (first | (with_reducible first | exact HB.out | apply below_alloc | apply pw_below_drewN | apply below_drew1 | refine below_set ?_ GE456.out) | exact HB.out)))); have n2_ := Aside0.mk (blk_below (g := gb456) (o := .cells #[.slice A0_0 l0_0.length c0_0] 29 (0, 0)) (by (with_reducible repeat (first | refine blk_drewN ?_ _ | refine blk_drew ?_ | refine blk_alloc ?_ _)); exact BK456.out) hb); have n3_ := Aside0.mk (below_step (by repeat (first | (with_reducible first | exact HB.out | apply below_alloc | apply pw_below_drewN | apply below_drew1 | refine below_set ?_ GE456.out) | exact HB.out)) hb); clear HO459; clear BK456; clear HB; have HO459 := n0_; have HO462 := n1_; have BK456 := n2_; have HB := n3_; clear n0_ n1_ n2_ n3_; (try clear hb); (try clear hb2); (try clear hk); (try clear hi); (try clear ho0); obtain ⟨Ao11, co11, eo11⟩ := Kd.R_slice HO462.out; subst eo11))
   go_loopg [15] k (fun kq v15 w' => ∃ (x3_1 : List (List Int)) (x15_1 : Int), v15 = .int .i64 x15_1 ∧ Aside0 (impl_Prog_preds.l0 kq x3_1 t460 (t460.length : Int) x15_1 l0_0 = some r) ∧ Aside0 (kq ≤ k) ∧ Aside0 (Kd.S (Kd.slice 3 (Kd.int .i64)) 60 w' w.heap.size (fun _ => True) v458 x3_1) ∧ Aside0 (Kd.R Kd.bool 4 w' w.heap.size (fun _ => True) (.slice Ao11 t460.length co11) t460) ∧ Aside0 (w'.heap[gb456]? = some (.cells #[(.slice A0_0 l0_0.length c0_0)] 29 (0, 0))) ∧ Aside0 (Below w.heap.size w w'))
   case atStart => exact ⟨(y457), (0), (by first | rfl | (simp; done) | (simp [*]; done)), H', ⟨Nat.le_refl _⟩, ⟨by (with_reducible repeat (first | apply Kd.S_alloc | apply Kd.S_drewN | apply Kd.S_drew)); exact HO459.out⟩, ⟨by (with_reducible repeat (first | apply Kd.R_alloc | apply Kd.R_drewN | apply Kd.R_drew)); exact HO462.out⟩, ⟨by (with_reducible repeat (first | refine blk_drewN ?_ _ | refine blk_drew ?_ | refine blk_alloc ?_ _)); exact BK456.out⟩, ⟨by repeat (first | (with_reducible first | exact HB.out | apply below_alloc | apply pw_below_drewN | apply below_drew1 | refine below_set ?_ GE456.out) | exact HB.out)⟩⟩
   case round =>
    clear H'
    (try clear c2); (try clear c2b0); (try clear c2b1); (try clear c3); (try clear c3b0); (try clear c3b1); (try clear hcz6_0); (try clear hcz9_0); (try clear hfz6_0); (try clear hfz9_0)
    obtain ⟨x3_1, x15_1, rfl, HA, HK1, HO_3, HO_13, BK456, HB⟩ := hrel
    cases gk with
    | zero => exact absurd HA.out (by simp [impl_Prog_preds.l0])
    | succ k1 =>
     have H := HA.out
     clear HA
     simp only [impl_Prog_preds.l0] at H
     by_cases c12 : x15_1 < (t460.length : Int)
     ·rw [if_pos c12] at H
      have c12b0 : decide (x15_1 < (t460.length : Int)) = true := decide_eq_true c12
      clear c12
      by_cases c13 : 0 ≤ x15_1
      ·rw [if_pos c13] at H
       have c13b0 : decide (0 ≤ x15_1) = true := decide_eq_true c13
       clear c13
       by_cases c14 : x15_1 < (t460.length : Int)
       ·rw [if_pos c14] at H
        have c14b0 : decide (x15_1 < (t460.length : Int)) = true := decide_eq_true c14
        clear c14
        obtain ⟨bq15, hbq15⟩ : ∃ b_ : Bool, b_ = (rdOf false t460 x15_1) := ⟨_, rfl⟩
        replace H : (if bq15 = true then (if x15_1 < (l0_0.length : Int) then (impl_Prog_preds.l1 k1 x3_1 x15_1 t460 (t460.length : Int) x15_1 ((rd_T68 l0_0 x15_1).f5) (((rd_T68 l0_0 x15_1).f5).length : Int) 0 l0_0) else (none)) else (impl_Prog_preds.l0 k1 x3_1 t460 (t460.length : Int) (wrap64 (x15_1 + 1)) l0_0)) = some r := by rw [← hbq15] at H; exact H
        have Nbq15 := Aside0.mk hbq15
        clear hbq15
        by_cases c16 : bq15 = true
        ·subst c16
         have H1 : (if x15_1 < (l0_0.length : Int) then (impl_Prog_preds.l1 k1 x3_1 x15_1 t460 (t460.length : Int) x15_1 ((rd_T68 l0_0 x15_1).f5) (((rd_T68 l0_0 x15_1).f5).length : Int) 0 l0_0) else (none)) = some r := by rw [if_pos rfl] at H; exact H
         clear H
         have H := H1
         clear H1
         by_cases c17 : x15_1 < (l0_0.length : Int)
         ·rw [if_pos c17] at H
          have c17b0 : decide (x15_1 < (l0_0.length : Int)) = true := decide_eq_true c17
          clear c17
          have H' := Aside0.mk H
          clear H
          have p463 : 0 ≤ (x15_1 : Int) := of_decide_eq_true (by first | (with_reducible assumption) | assumption)
          have q463 : x15_1 < (t460.length : Int) := of_decide_eq_true (by first | (with_reducible assumption) | assumption)
          try (obtain ⟨Av_, cv_, ev_⟩ := Kd.R_slice HO_13.out; subst ev_)
          obtain ⟨ad463, e463, hx463_0⟩ := Kd.at_bool (Kd.R_reads' HO_13.out).2.2 x15_1 p463 q463
          (try rw [← Nbq15.out] at hx463_0)
          cases e463
          replace p463 := eq_true p463
          replace q463 := eq_true q463
          have hcz18_0 : wr.cell? ⟨gb456, 0, none⟩ = some (.slice A0_0 l0_0.length c0_0) := (blk_cell BK456.out 0).trans rfl
          have hfz18_0 := blk_frozen BK456.out 0
          have p464 : 0 ≤ (x15_1 : Int) := of_decide_eq_true (by first | (with_reducible assumption) | assumption)
          have q464 : x15_1 < (l0_0.length : Int) := of_decide_eq_true (by first | (with_reducible assumption) | assumption)
          obtain ⟨ad464, A464_7, c464_7, e464, hx464_0, hx464_1, hx464_2, hx464_3, hx464_4, hx464_5, hx464_6, hx464_7, hl464_7, hi464_7⟩ := at_T68 HR0_0.out x15_1 p464 q464
          cases e464
          replace hx464_0 := (HB.out.cell (World.block_lt_of_cell? w _ hx464_0)).trans hx464_0
          replace hx464_1 := (HB.out.cell (World.block_lt_of_cell? w _ hx464_1)).trans hx464_1
          replace hx464_2 := (HB.out.cell (World.block_lt_of_cell? w _ hx464_2)).trans hx464_2
          replace hx464_3 := (HB.out.cell (World.block_lt_of_cell? w _ hx464_3)).trans hx464_3
          replace hx464_4 := (HB.out.cell (World.block_lt_of_cell? w _ hx464_4)).trans hx464_4
          replace hx464_5 := (HB.out.cell (World.block_lt_of_cell? w _ hx464_5)).trans hx464_5
          replace hx464_6 := (HB.out.cell (World.block_lt_of_cell? w _ hx464_6)).trans hx464_6
          replace hx464_7 := (HB.out.cell (World.block_lt_of_cell? w _ hx464_7)).trans hx464_7
          have HR464_7 := Aside0.mk hi464_7
          have HC464_7 := Aside0.mk hl464_7
          clear hi464_7 hl464_7
          replace p464 := eq_true p464
          replace q464 := eq_true q464
          go_wp2
          go_loopg [29] k1 (fun kq v29 w' => ∃ (x3_2 : List (List Int)) (x29_2 : Int), v29 = .int .i64 x29_2 ∧ Aside0 (impl_Prog_preds.l1 kq x3_2 x15_1 t460 (t460.length : Int) x15_1 ((rd_T68 l0_0 x15_1).f5) (((rd_T68 l0_0 x15_1).f5).length : Int) x29_2 l0_0 = some r) ∧ Aside0 (kq ≤ k1) ∧ Aside0 (Kd.S (Kd.slice 3 (Kd.int .i64)) 60 w' w.heap.size (fun _ => True) v458 x3_2) ∧ Aside0 (Kd.R Kd.bool 4 w' w.heap.size (fun _ => True) (.slice (some ad463) t460.length co11) t460) ∧ Aside0 (w'.heap[gb456]? = some (.cells #[(.slice (some ad464) l0_0.length c0_0)] 29 (0, 0))) ∧ Aside0 (Below w.heap.size w w'))
          case atStart => exact ⟨(x3_1), (0), (by first | rfl | (simp; done) | (simp [*]; done)), H', ⟨Nat.le_refl _⟩, ⟨by (with_reducible repeat (first | apply Kd.S_alloc | apply Kd.S_drewN | apply Kd.S_drew)); exact HO_3.out⟩, ⟨by (with_reducible repeat (first | apply Kd.R_alloc | apply Kd.R_drewN | apply Kd.R_drew)); exact HO_13.out⟩, ⟨by (with_reducible repeat (first | refine blk_drewN ?_ _ | refine blk_drew ?_ | refine blk_alloc ?_ _)); exact BK456.out⟩, ⟨by repeat (first | (with_reducible first | exact HB.out | apply below_alloc | apply pw_below_drewN | apply below_drew1 | refine below_set ?_ GE456.out) | exact HB.out)⟩⟩
          case round =>
           clear H'
           (try clear c2); (try clear c2b0); (try clear c2b1); (try clear c3); (try clear c3b0); (try clear c3b1); (try clear c12); (try clear c12b0); (try clear c13); (try clear c13b0); (try clear c14); (try clear c14b0); (try clear c16); (try clear c17); (try clear c17b0); (try clear hcz18_0); (try clear hcz6_0); (try clear hcz9_0); (try clear hfz18_0); (try clear hfz6_0); (try clear hfz9_0); (try clear hx463_0); (try clear hx464_0); (try clear hx464_1); (try clear hx464_2); (try clear hx464_3); (try clear hx464_4); (try clear hx464_5); (try clear hx464_6); (try clear hx464_7); (try clear p463); (try clear p464); (try clear q463); (try clear q464)
           obtain ⟨x3_2, x29_2, rfl, HA, HK2, HO_3, HO_13, BK456, HB⟩ := hrel
           cases gk with
           | zero => exact absurd HA.out (by simp [impl_Prog_preds.l1])
           | succ k2 =>
            have H := HA.out
            clear HA
            simp only [impl_Prog_preds.l1] at H
            by_cases c19 : x29_2 < (((rd_T68 l0_0 x15_1).f5).length : Int)
            ·rw [if_pos c19] at H
             have c19b0 : decide (x29_2 < (((rd_T68 l0_0 x15_1).f5).length : Int)) = true := decide_eq_true c19
             clear c19
             by_cases c20 : 0 ≤ x29_2
             ·rw [if_pos c20] at H
              have c20b0 : decide (0 ≤ x29_2) = true := decide_eq_true c20
              clear c20
              by_cases c21 : x29_2 < (((rd_T68 l0_0 x15_1).f5).length : Int)
              ·rw [if_pos c21] at H
               have c21b0 : decide (x29_2 < (((rd_T68 l0_0 x15_1).f5).length : Int)) = true := decide_eq_true c21
               clear c21
               by_cases c22 : 0 ≤ (rd ((rd_T68 l0_0 x15_1).f5) x29_2)
               ·rw [if_pos c22] at H
                have c22b0 : decide (0 ≤ (rd ((rd_T68 l0_0 x15_1).f5) x29_2)) = true := decide_eq_true c22
                clear c22
                by_cases c23 : (rd ((rd_T68 l0_0 x15_1).f5) x29_2) < (x3_2.length : Int)
                ·rw [if_pos c23] at H
                 have c23b0 : decide ((rd ((rd_T68 l0_0 x15_1).f5) x29_2) < (x3_2.length : Int)) = true := decide_eq_true c23
                 clear c23
                 replace H := Option.bind_eq_some_iff.mp H
                 obtain ⟨t467, A240, H⟩ := H
                 replace H : (if t467 = true then (impl_Prog_preds.l1 k2 x3_2 x15_1 t460 (t460.length : Int) x15_1 ((rd_T68 l0_0 x15_1).f5) (((rd_T68 l0_0 x15_1).f5).length : Int) (wrap64 (x29_2 + 1)) l0_0) else (if (rd_L2 x3_2 (rd ((rd_T68 l0_0 x15_1).f5) x29_2)).length < 17592186044416 then (impl_Prog_preds.l1 k2 (x3_2.set ((rd ((rd_T68 l0_0 x15_1).f5) x29_2) : Int).toNat ((rd_L2 x3_2 (rd ((rd_T68 l0_0 x15_1).f5) x29_2)) ++ [x15_1])) x15_1 t460 (t460.length : Int) x15_1 ((rd_T68 l0_0 x15_1).f5) (((rd_T68 l0_0 x15_1).f5).length : Int) (wrap64 (x29_2 + 1)) l0_0) else (none))) = some r := H
                 have A24 := Aside0.mk A240
                 clear A240
                 by_cases c25 : t467 = true
                 ·subst c25
                  have H1 : (impl_Prog_preds.l1 k2 x3_2 x15_1 t460 (t460.length : Int) x15_1 ((rd_T68 l0_0 x15_1).f5) (((rd_T68 l0_0 x15_1).f5).length : Int) (wrap64 (x29_2 + 1)) l0_0) = some r := by rw [if_pos rfl] at H; exact H
                  clear H
                  have H := H1
                  clear H1
                  have H' := Aside0.mk H
                  clear H
                  have p465 : 0 ≤ (x29_2 : Int) := of_decide_eq_true (by first | (with_reducible assumption) | assumption)
                  have q465 : x29_2 < (((rd_T68 l0_0 x15_1).f5).length : Int) := of_decide_eq_true (by first | (with_reducible assumption) | assumption)
                  obtain ⟨ad465, e465, hx465_0⟩ := Kd.at_int HR464_7.out x29_2 p465 q465
                  cases e465
                  replace hx465_0 := (HB.out.cell (World.block_lt_of_cell? w _ hx465_0)).trans hx465_0
                  replace p465 := eq_true p465
                  replace q465 := eq_true q465
                  obtain ⟨Ao26, co26, eo26⟩ := Kd.S_slice HO_3.out
                  subst eo26
                  have p466 : 0 ≤ ((rd ((rd_T68 l0_0 x15_1).f5) x29_2) : Int) := of_decide_eq_true (by first | (with_reducible assumption) | assumption)
                  have q466 : (rd ((rd_T68 l0_0 x15_1).f5) x29_2) < (x3_2.length : Int) := of_decide_eq_true (by first | (with_reducible assumption) | assumption)
                  obtain ⟨ad466, A466_0, c466_0, e466, hx466_0, hl466_0, hi466_0⟩ := at_L2 (Kd.S_reads' HO_3.out).2.2 (rd ((rd_T68 l0_0 x15_1).f5) x29_2) p466 q466
                  cases e466
                  obtain ⟨ce466, hce466, hMe466, hcc466⟩ := Kd.S_get HO_3.out [] (rd ((rd_T68 l0_0 x15_1).f5) x29_2) p466 (by first | exact q466 | exact of_decide_eq_true (by first | (with_reducible assumption) | assumption) | (have e_ := (Kd.S_reads' HO_3.out).1; omega))
                  obtain ⟨ve466_0, rfl, ge466_0⟩ := hMe466
                  have hv466_0 := hcc466 0 _ rfl
                  rw [Nat.add_zero, show ((Kd.slice 3 (Kd.int .i64))).sz = 1 from rfl, Nat.mul_one] at hv466_0
                  replace hv466_0 := Option.some.inj (hv466_0.symm.trans hx466_0)
                  rw [hv466_0] at ge466_0
                  have HL466_0 := Aside0.mk (show Kd.R (Kd.int .i64) 3 _ _ _ _ (rd_L2 x3_2 (rd ((rd_T68 l0_0 x15_1).f5) x29_2)) from ge466_0)
                  clear hv466_0 ge466_0
                  have HX466_0 := Aside0.mk hx466_0
                  clear hcc466 hce466
                  have HR466_0 := Aside0.mk hi466_0
                  have HC466_0 := Aside0.mk hl466_0
                  clear hi466_0 hl466_0
                  replace p466 := eq_true p466
                  replace q466 := eq_true q466
                  go_wp2_with (first | ((with_reducible refine gate_callee (f := 111) rfl ?_); refine goesL_ (some 38) rfl rfl Try.func111 (by kernel_rfl) rfl #[.slice A466_0 (rd_L2 x3_2 (rd ((rd_T68 l0_0 x15_1).f5) x29_2)).length c466_0, .int .i64 x15_1] rfl (by (try simp only [List.map_toArray, List.map_cons, List.map_nil]); first | done | rfl | (simp only [List.length_drop, List.length_take]; rfl)) ?_; (with_reducible refine (slices_Contains_int_int.calls k2 _ _ (rd_L2 x3_2 (rd ((rd_T68 l0_0 x15_1).f5) x29_2)) x15_1 true _ ?side1 ?side2 A24.out).mono ?_); (case side1 => repeat (first | exact (by repeat (first | (with_reducible exact HR466_0.out) | (with_reducible refine Kd.C_alloc ?_ _) | (with_reducible refine Kd.C_drewN ?_ _) | (with_reducible refine Kd.C_drew ?_) | exact HR466_0.out)) | (with_reducible refine Kd.C_alloc ?_ _) | (with_reducible refine Kd.C_drewN ?_ _) | (with_reducible refine Kd.C_drew ?_))); (case side2 => exact HC466_0.out); rintro e w' ⟨rfl, ⟨nd, rfl⟩⟩; refine ⟨_, rfl, ?_⟩))
                  go_roundg k2
                  case measure => have := HK1.out; have := HK2.out; omega
                  case rel => exact ⟨(x3_2), (wrap64 (x29_2 + 1)), (by first | rfl | (simp; done) | (simp [*]; done)), H', ⟨by have := HK1.out; have := HK2.out; omega⟩, ⟨by (with_reducible repeat (first | apply Kd.S_alloc | apply Kd.S_drewN | apply Kd.S_drew)); exact HO_3.out⟩, ⟨by (with_reducible repeat (first | apply Kd.R_alloc | apply Kd.R_drewN | apply Kd.R_drew)); exact HO_13.out⟩, ⟨by (with_reducible repeat (first | refine blk_drewN ?_ _ | refine blk_drew ?_ | refine blk_alloc ?_ _)); exact BK456.out⟩, ⟨by repeat (first | (with_reducible first | exact HB.out | apply below_alloc | apply pw_below_drewN | apply below_drew1 | refine below_set ?_ GE456.out) | exact HB.out)⟩⟩
                 ·replace c25 := Bool.eq_false_iff.mpr c25
                  subst c25
                  have H1 : (if (rd_L2 x3_2 (rd ((rd_T68 l0_0 x15_1).f5) x29_2)).length < 17592186044416 then (impl_Prog_preds.l1 k2 (x3_2.set ((rd ((rd_T68 l0_0 x15_1).f5) x29_2) : Int).toNat ((rd_L2 x3_2 (rd ((rd_T68 l0_0 x15_1).f5) x29_2)) ++ [x15_1])) x15_1 t460 (t460.length : Int) x15_1 ((rd_T68 l0_0 x15_1).f5) (((rd_T68 l0_0 x15_1).f5).length : Int) (wrap64 (x29_2 + 1)) l0_0) else (none)) = some r := by rw [if_neg (show ¬ (false = true) by decide)] at H; exact H
                  clear H
                  have H := H1
                  clear H1
                  by_cases c27 : (rd_L2 x3_2 (rd ((rd_T68 l0_0 x15_1).f5) x29_2)).length < 17592186044416
                  ·rw [if_pos c27] at H
                   have LMc27 := Aside0.mk c27
                   clear c27
                   obtain ⟨y469, hy469⟩ : ∃ y_ : List Int, y_ = ((rd_L2 x3_2 (rd ((rd_T68 l0_0 x15_1).f5) x29_2)) ++ [x15_1]) := ⟨_, rfl⟩
                   replace H : (impl_Prog_preds.l1 k2 (x3_2.set ((rd ((rd_T68 l0_0 x15_1).f5) x29_2) : Int).toNat y469) x15_1 t460 (t460.length : Int) x15_1 ((rd_T68 l0_0 x15_1).f5) (((rd_T68 l0_0 x15_1).f5).length : Int) (wrap64 (x29_2 + 1)) l0_0) = some r := by first | (rw [hy469]; with_reducible exact H) | (have H2_ := (Option.bind_some _ _).symm.trans H; rw [hy469]; with_reducible exact H2_) | (have H2_ := (Option.bind_some _ _).symm.trans H; with_reducible exact H2_) | with_reducible exact H | (rw [hy469]; exact H) | exact H
                   have Ny469 := Aside0.mk hy469
                   clear hy469
                   obtain ⟨y472, hy472⟩ : ∃ y_ : List (List Int), y_ = (x3_2.set ((rd ((rd_T68 l0_0 x15_1).f5) x29_2) : Int).toNat y469) := ⟨_, rfl⟩
                   replace H : (impl_Prog_preds.l1 k2 y472 x15_1 t460 (t460.length : Int) x15_1 ((rd_T68 l0_0 x15_1).f5) (((rd_T68 l0_0 x15_1).f5).length : Int) (wrap64 (x29_2 + 1)) l0_0) = some r := by first | (rw [hy472]; with_reducible exact H) | (have H2_ := (Option.bind_some _ _).symm.trans H; rw [hy472]; with_reducible exact H2_) | (have H2_ := (Option.bind_some _ _).symm.trans H; with_reducible exact H2_) | with_reducible exact H | (rw [hy472]; exact H) | exact H
                   have Ny472 := Aside0.mk hy472
                   clear hy472
                   have H' := Aside0.mk H
                   clear H
                   have p465 : 0 ≤ (x29_2 : Int) := of_decide_eq_true (by first | (with_reducible assumption) | assumption)
                   have q465 : x29_2 < (((rd_T68 l0_0 x15_1).f5).length : Int) := of_decide_eq_true (by first | (with_reducible assumption) | assumption)
                   obtain ⟨ad465, e465, hx465_0⟩ := Kd.at_int HR464_7.out x29_2 p465 q465
                   cases e465
                   replace hx465_0 := (HB.out.cell (World.block_lt_of_cell? w _ hx465_0)).trans hx465_0
                   replace p465 := eq_true p465
                   replace q465 := eq_true q465
                   obtain ⟨Ao29, co29, eo29⟩ := Kd.S_slice HO_3.out
                   subst eo29
                   have p466 : 0 ≤ ((rd ((rd_T68 l0_0 x15_1).f5) x29_2) : Int) := of_decide_eq_true (by first | (with_reducible assumption) | assumption)
                   have q466 : (rd ((rd_T68 l0_0 x15_1).f5) x29_2) < (x3_2.length : Int) := of_decide_eq_true (by first | (with_reducible assumption) | assumption)
                   obtain ⟨ad466, A466_0, c466_0, e466, hx466_0, hl466_0, hi466_0⟩ := at_L2 (Kd.S_reads' HO_3.out).2.2 (rd ((rd_T68 l0_0 x15_1).f5) x29_2) p466 q466
                   cases e466
                   obtain ⟨ce466, hce466, hMe466, hcc466⟩ := Kd.S_get HO_3.out [] (rd ((rd_T68 l0_0 x15_1).f5) x29_2) p466 (by first | exact q466 | exact of_decide_eq_true (by first | (with_reducible assumption) | assumption) | (have e_ := (Kd.S_reads' HO_3.out).1; omega))
                   obtain ⟨ve466_0, rfl, ge466_0⟩ := hMe466
                   have hv466_0 := hcc466 0 _ rfl
                   rw [Nat.add_zero, show ((Kd.slice 3 (Kd.int .i64))).sz = 1 from rfl, Nat.mul_one] at hv466_0
                   replace hv466_0 := Option.some.inj (hv466_0.symm.trans hx466_0)
                   rw [hv466_0] at ge466_0
                   have HL466_0 := Aside0.mk (show Kd.R (Kd.int .i64) 3 _ _ _ _ (rd_L2 x3_2 (rd ((rd_T68 l0_0 x15_1).f5) x29_2)) from ge466_0)
                   clear hv466_0 ge466_0
                   have HX466_0 := Aside0.mk hx466_0
                   clear hcc466 hce466
                   have HR466_0 := Aside0.mk hi466_0
                   have HC466_0 := Aside0.mk hl466_0
                   clear hi466_0 hl466_0
                   replace p466 := eq_true p466
                   replace q466 := eq_true q466
                   go_wp2_with (first | ((with_reducible refine gate_callee (f := 111) rfl ?_); refine goesL_ (some 38) rfl rfl Try.func111 (by kernel_rfl) rfl #[.slice A466_0 (rd_L2 x3_2 (rd ((rd_T68 l0_0 x15_1).f5) x29_2)).length c466_0, .int .i64 x15_1] rfl (by (try simp only [List.map_toArray, List.map_cons, List.map_nil]); first | done | rfl | (simp only [List.length_drop, List.length_take]; rfl)) ?_; (with_reducible refine (slices_Contains_int_int.calls k2 _ _ (rd_L2 x3_2 (rd ((rd_T68 l0_0 x15_1).f5) x29_2)) x15_1 false _ ?side1 ?side2 A24.out).mono ?_); (case side1 => repeat (first | exact (by repeat (first | (with_reducible exact HR466_0.out) | (with_reducible refine Kd.C_alloc ?_ _) | (with_reducible refine Kd.C_drewN ?_ _) | (with_reducible refine Kd.C_drew ?_) | exact HR466_0.out)) | (with_reducible refine Kd.C_alloc ?_ _) | (with_reducible refine Kd.C_drewN ?_ _) | (with_reducible refine Kd.C_drew ?_))); (case side2 => exact HC466_0.out); rintro e w' ⟨rfl, ⟨nd, rfl⟩⟩; refine ⟨_, rfl, ?_⟩; (try (rw [drewN_self wr]; generalize hq_ : World.drewN wr _ = wr; have n0_ : Aside0 (Kd.R (Kd.int .i64) 3 wr w.heap.size (fun k_ => some k_ ≠ (.slice (some ad466) x3_2.length co29 : Value).ownBlock) (.slice A466_0 (rd_L2 x3_2 (rd ((rd_T68 l0_0 x15_1).f5) x29_2)).length c466_0) (rd_L2 x3_2 (rd ((rd_T68 l0_0 x15_1).f5) x29_2))) := ⟨by rw [← hq_]; exact (by (with_reducible repeat (first | apply Kd.R_alloc | apply Kd.R_drewN | apply Kd.R_drew)); exact Kd.R_mono HL466_0.out (fun _ hk => hk.2))⟩; have n1_ : Aside0 (Kd.R Kd.bool 4 wr w.heap.size (fun _ => True) (.slice (some ad463) t460.length co11) t460) := ⟨by rw [← hq_]; exact (by (with_reducible repeat (first | apply Kd.R_alloc | apply Kd.R_drewN | apply Kd.R_drew)); exact HO_13.out)⟩; have n2_ : Aside0 (Kd.S (Kd.slice 3 (Kd.int .i64)) 60 wr w.heap.size (fun _ => True) (.slice (some ad466) x3_2.length co29) x3_2) := ⟨by rw [← hq_]; exact (by (with_reducible repeat (first | apply Kd.S_alloc | apply Kd.S_drewN | apply Kd.S_drew)); exact HO_3.out)⟩; have n3_ : Aside0 (wr.heap[gb456]? = some (.cells #[.slice (some ad464) l0_0.length c0_0] 29 (0, 0))) := ⟨by rw [← hq_]; exact (by (with_reducible repeat (first | refine blk_drewN ?_ _ | refine blk_drew ?_ | refine blk_alloc ?_ _)); exact BK456.out)⟩; have n4_ : Aside0 (Below w.heap.size w wr) := ⟨by rw [← hq_]; exact (by repeat (first | (with_reducible first | exact HB.out | apply below_alloc | apply pw_below_drewN | apply below_drew1 | refine below_set ?_ GE456.out) | exact HB.out))⟩; have n5_ : Aside0 (Kd.C (Kd.int .i64) wr A466_0 (rd_L2 x3_2 (rd ((rd_T68 l0_0 x15_1).f5) x29_2)).length (rd_L2 x3_2 (rd ((rd_T68 l0_0 x15_1).f5) x29_2))) := ⟨by rw [← hq_]; exact (by repeat (first | (with_reducible exact HR466_0.out) | (with_reducible refine Kd.C_alloc ?_ _) | (with_reducible refine Kd.C_drewN ?_ _) | (with_reducible refine Kd.C_drew ?_) | exact HR466_0.out))⟩; (try replace hx466_0 := cell_at hq_ hx466_0); clear HL466_0 HO_13 HO_3 BK456 HB HR466_0 hq_; have HL466_0 := n0_; have HO_13 := n1_; have HO_3 := n2_; have BK456 := n3_; have HB := n4_; have HR466_0 := n5_; clear n0_ n1_ n2_ n3_ n4_ n5_)); have p468 : 0 ≤ ((rd ((rd_T68 l0_0 x15_1).f5) x29_2) : Int) := of_decide_eq_true (by first | (with_reducible assumption) | assumption); have q468 : (rd ((rd_T68 l0_0 x15_1).f5) x29_2) < (x3_2.length : Int) := of_decide_eq_true (by first | (with_reducible assumption) | assumption); obtain ⟨ad468, A468_0, c468_0, e468, hx468_0, hl468_0, hi468_0⟩ := at_L2 (Kd.S_reads' HO_3.out).2.2 (rd ((rd_T68 l0_0 x15_1).f5) x29_2) p468 q468; obtain rfl : ad466 = ad468 := (by injection e468); obtain ⟨ce468, hce468, hMe468, hcc468⟩ := Kd.S_get HO_3.out [] (rd ((rd_T68 l0_0 x15_1).f5) x29_2) p468 (by first | exact q468 | exact of_decide_eq_true (by first | (with_reducible assumption) | assumption) | (have e_ := (Kd.S_reads' HO_3.out).1; omega)); obtain ⟨ve468_0, rfl, ge468_0⟩ := hMe468; have hv468_0 := hcc468 0 _ rfl; rw [Nat.add_zero, show ((Kd.slice 3 (Kd.int .i64))).sz = 1 from rfl, Nat.mul_one] at hv468_0; replace hv468_0 := Option.some.inj (hv468_0.symm.trans hx468_0); rw [hv468_0] at ge468_0; have HL468_0 := Aside0.mk (show Kd.R (Kd.int .i64) 3 _ _ _ _ (rd_L2 x3_2 (rd ((rd_T68 l0_0 x15_1).f5) x29_2)) from ge468_0); clear hv468_0 ge468_0; have HX468_0 := Aside0.mk hx468_0; clear hcc468 hce468; have HR468_0 := Aside0.mk hi468_0; have HC468_0 := Aside0.mk hl468_0; clear hi468_0 hl468_0; replace p468 := eq_true p468; replace q468 := eq_true q468; have ea_ := Option.some.inj (hx466_0.symm.trans hx468_0); injection ea_ with ea_ en_ ec_; subst ea_; subst ec_; clear en_; obtain ⟨go30, co30, eo30, gb30, gl30, cl30, HG30⟩ := Kd.S_form HO_3.out (by have h_ : ((rd ((rd_T68 l0_0 x15_1).f5) x29_2) : Int) < ((x3_2.length : Int) : Int) := of_decide_eq_true (by first | (with_reducible assumption) | assumption); have h2_ : 0 ≤ ((rd ((rd_T68 l0_0 x15_1).f5) x29_2) : Int) := (of_decide_eq_true (by first | (with_reducible assumption) | assumption)); omega); (first | cases eo30 | (injection eo30 with ea_ en_ ec_; (first | subst ea_ | (injection ea_ with ea_; subst ea_)); subst ec_; clear en_)); have GB30 := Aside0.mk gb30; have GG30 := Aside0.mk HG30; clear gb30 gl30 HG30; (first | simp only [add_plain] at hx466_0 | skip); (first | simp only [add_plain] at hx468_0 | skip); obtain ⟨oki30, ce30, hcl30, hM30, hcc30, _, _, hH30⟩ := Kd.S_elem HO_3.out [] ((rd ((rd_T68 l0_0 x15_1).f5) x29_2) : Int) (of_decide_eq_true (by first | (with_reducible assumption) | assumption)) (by have h_ : ((rd ((rd_T68 l0_0 x15_1).f5) x29_2) : Int) < ((x3_2.length : Int) : Int) := of_decide_eq_true (by first | (with_reducible assumption) | assumption); first | exact h_ | (have e_ := (Kd.S_reads' HO_3.out).1; omega) | simpa using h_); obtain ⟨ve30_0, rfl, ge30_0⟩ := hM30; have hv30 := hcc30 0 _ rfl; have hX30 := HX468_0.out; (try simp only [add_plain] at hX30); (try simp only [Nat.add_zero] at hv30); (try rw [show ((Kd.slice 3 (Kd.int .i64))).sz = 1 from rfl, Nat.mul_one] at hv30); replace hv30 := Option.some.inj (hv30.symm.trans hX30); subst hv30; clear hX30 hcc30 hcl30; have UU30 := Aside0.mk (show Kd.R (Kd.int .i64) 3 _ w.heap.size oki30 (.slice A466_0 (rd_L2 x3_2 (rd ((rd_T68 l0_0 x15_1).f5) x29_2)).length c466_0) (rd_L2 x3_2 (rd ((rd_T68 l0_0 x15_1).f5) x29_2)) from ge30_0); have HH30 := Aside0.mk hH30; have HN30 := Aside0.mk (Kd.S_reads' HO_3.out).1; clear hH30 ge30_0) | ((with_reducible refine gate_builtin (b := .append) (xs := #[.tmp 45, .tmp 47]) rfl ?_); at_builtin; refine Kd.R_append (Kd.int .i64) (w0 := w) w.heap.size rfl (.tmp 45) (.tmp 47) 60 3 (.int .i64 0) 8 rfl Try.underlying60 info3 rfl (by decide) (by omega) (.slice A466_0 (rd_L2 x3_2 (rd ((rd_T68 l0_0 x15_1).f5) x29_2)).length c466_0) (rd_L2 x3_2 (rd ((rd_T68 l0_0 x15_1).f5) x29_2)) x15_1 [.int .i64 x15_1] (fun k_ => oki30 k_ ∨ ((fun _ => True)) k_ ∧ wr.heap.size ≤ k_) (fun _ => False) rfl rfl ?aP (fun _ hk => hk.elim) ?aF ?aO ?aB ?aS ?aL ?_; (case aP => exact rfl); (case aB => exact (by repeat (first | (with_reducible first | exact HB.out | apply below_alloc | apply pw_below_drewN | apply below_drew1 | refine below_set ?_ GE456.out) | exact HB.out))); (case aF => exact (fun k_ hk => .inr ⟨trivial, hk⟩)); (case aO => exact (by (with_reducible repeat (first | apply Kd.R_alloc | apply Kd.R_drewN | apply Kd.R_drew)); exact Kd.R_mono UU30.out (fun _ hk => .inl hk))); (case aS => exact (below_size (by repeat (first | (with_reducible first | exact HB.out | apply below_alloc | apply pw_below_drewN | apply below_drew1 | refine below_set ?_ GE456.out) | exact HB.out)))); (case aL => have := LMc27.out; omega); intro v470 w31 ho hb hg hat; rw [← Ny469.out] at ho; have n0_ := Aside0.mk (Kd.R_over' (v := (.slice A466_0 (rd_L2 x3_2 (rd ((rd_T68 l0_0 x15_1).f5) x29_2)).length c466_0)) (by (with_reducible repeat (first | apply Kd.R_alloc | apply Kd.R_drewN | apply Kd.R_drew)); exact HO_13.out) (Kd.R_typed HL468_0.out) (by decide) hg); have n1_ := Aside0.mk (blk_grown (g := gb456) (o := .cells #[.slice (some ad464) l0_0.length c0_0] 29 (0, 0)) (by (with_reducible repeat (first | refine blk_drewN ?_ _ | refine blk_drew ?_ | refine blk_alloc ?_ _)); exact BK456.out) hg (Kd.R_ne HL468_0.out BK456.out (by decide))); have n2_ := Aside0.mk (hb); have n3_ := Aside0.mk (Kd.H_grown (Kd.H_widen (by repeat (first | exact HH30.out | refine Kd.H_alloc ?_ _ | refine Kd.H_drewN ?_ _ | refine Kd.H_drew ?_))) hg (fun k_ e_ => .inl (UU30.out.1 k_ e_))); have n4_ := Aside0.mk (ho); clear HO_13; clear BK456; clear HB; clear HH30; clear HO_3; clear UU30; clear HL466_0; clear HL468_0; have HO_13 := n0_; have BK456 := n1_; have HB := n2_; have HH30 := n3_; have HO471 := n4_; clear n0_ n1_ n2_ n3_ n4_; clear ho hb hg hat; have p28 : 0 ≤ ((rd ((rd_T68 l0_0 x15_1).f5) x29_2) : Int) := of_decide_eq_true (by first | (with_reducible assumption) | assumption); have q28 : ((rd ((rd_T68 l0_0 x15_1).f5) x29_2) : Int) < ((x3_2.length : Int) : Int) := of_decide_eq_true (by first | (with_reducible assumption) | assumption); replace p28 := eq_true p28; replace q28 := eq_true q28; obtain ⟨Ao34, co34, eo34⟩ := Kd.R_slice HO471.out; subst eo34; obtain ⟨_, _, hraw32, _, _, hcc32, _⟩ := Kd.H_raw HH30.out (of_decide_eq_true (by first | (with_reducible assumption) | assumption)) (by have h_ : ((rd ((rd_T68 l0_0 x15_1).f5) x29_2) : Int) < ((x3_2.length : Int) : Int) := of_decide_eq_true (by first | (with_reducible assumption) | assumption); first | exact h_ | (have e_ := (HN30.out); omega) | simpa using h_); obtain ⟨_, hfr32⟩ := Kd.H_at HH30.out (of_decide_eq_true (by first | (with_reducible assumption) | assumption)) (by have h_ : ((rd ((rd_T68 l0_0 x15_1).f5) x29_2) : Int) < ((x3_2.length : Int) : Int) := of_decide_eq_true (by first | (with_reducible assumption) | assumption); first | exact h_ | (have e_ := (HN30.out); omega) | simpa using h_); have hx32_0 := hcc32 0 _ rfl; have hf32_0 := hfr32 0; (try simp only [Nat.add_zero] at hx32_0 hf32_0); (try rw [show ((Kd.slice 3 (Kd.int .i64))).sz = 1 from rfl, Nat.mul_one] at hx32_0); (try rw [show ((Kd.slice 3 (Kd.int .i64))).sz = 1 from rfl, Nat.mul_one] at hf32_0); have HP32 := Kd.S_seg0 HH30.out (of_decide_eq_true (by first | (with_reducible assumption) | assumption)) (by have h_ : ((rd ((rd_T68 l0_0 x15_1).f5) x29_2) : Int) < ((x3_2.length : Int) : Int) := of_decide_eq_true (by first | (with_reducible assumption) | assumption); first | exact h_ | (have e_ := (HN30.out); omega) | simpa using h_) (seg := [.slice Ao34 y469.length co34]) (j := 0) (show 1 ≤ 1 from by decide) (x' := y469) (Kd.M_row HO471.out) (fun _ hk => hk); (try simp only [show ((Kd.slice 3 (Kd.int .i64))).sz = 1 from rfl, Nat.mul_one, Nat.add_zero] at HP32); clear hcc32 hfr32) | ((with_reducible refine gate_store (t := 60) (p := 49) rfl ?_); refine store_event (t := 60) (p := 49) (v := ?vo_w33) (w1 := (w31.setCell ⟨go30, ((rd ((rd_T68 l0_0 x15_1).f5) x29_2) : Int).toNat, none⟩ (.slice Ao34 y469.length co34))) ?hg ?ho ?hn ?hr ?_; (case ho => rfl); (case hg => rfl); (case hn => rfl); (case hr => first | (go_simp; done) | (go_simp; rfl)); intro w33 hw; have hg : w31.grownBy w33 (some go30) := (by rw [hw]; exact HP32.2); have hp_ : Kd.S (Kd.slice 3 (Kd.int .i64)) 60 w33 w.heap.size (fun _ => True) (.slice (some ⟨go30, 0, none⟩) x3_2.length co29) y472 := (by rw [hw, Ny472.out]; exact HP32.1); clear HP32; have n0_ := Aside0.mk (Kd.R_over' (v := (.slice (some ⟨go30, 0, none⟩) x3_2.length co29)) (by (with_reducible repeat (first | apply Kd.R_alloc | apply Kd.R_drewN | apply Kd.R_drew)); exact HO_13.out) (Kd.R_typed hraw32) (by decide) hg); have n1_ := Aside0.mk (blk_grown (g := gb456) (o := .cells #[.slice (some ad464) l0_0.length c0_0] 29 (0, 0)) (by (with_reducible repeat (first | refine blk_drewN ?_ _ | refine blk_drew ?_ | refine blk_alloc ?_ _)); exact BK456.out) hg (Kd.R_ne hraw32 BK456.out (by decide))); have n2_ := Aside0.mk ((by rw [hw]; exact below_set HB.out GB30.out : Below w.heap.size w w33)); have n3_ := Aside0.mk (hp_); clear HO_13; clear BK456; clear HB; clear HO471; clear HH30; have HO_13 := n0_; have BK456 := n1_; have HB := n2_; have HO_3 := n3_; clear n0_ n1_ n2_ n3_; clear hg hw hp_ hraw32))
                   go_roundg k2
                   case measure => have := HK1.out; have := HK2.out; omega
                   case rel => exact ⟨(y472), (wrap64 (x29_2 + 1)), (by first | rfl | (simp; done) | (simp [*]; done)), H', ⟨by have := HK1.out; have := HK2.out; omega⟩, ⟨by (with_reducible repeat (first | apply Kd.S_alloc | apply Kd.S_drewN | apply Kd.S_drew)); exact HO_3.out⟩, ⟨by (with_reducible repeat (first | apply Kd.R_alloc | apply Kd.R_drewN | apply Kd.R_drew)); exact HO_13.out⟩, ⟨by (with_reducible repeat (first | refine blk_drewN ?_ _ | refine blk_drew ?_ | refine blk_alloc ?_ _)); exact BK456.out⟩, ⟨by repeat (first | (with_reducible first | exact HB.out | apply below_alloc | apply pw_below_drewN | apply below_drew1 | refine below_set ?_ GE456.out) | exact HB.out)⟩⟩
                  ·rw [if_neg c27] at H
                   exact absurd H (by simp)
                ·rw [if_neg c23] at H
                 exact absurd H (by simp)
               ·rw [if_neg c22] at H
                exact absurd H (by simp)
              ·rw [if_neg c21] at H
               exact absurd H (by simp)
             ·rw [if_neg c20] at H
              exact absurd H (by simp)
            ·rw [if_neg c19] at H
             have c19b0 : decide (x29_2 < (((rd_T68 l0_0 x15_1).f5).length : Int)) = false := decide_eq_false c19
             clear c19
             have H' := Aside0.mk H
             clear H
             go_wp2
             go_roundg k2
             case measure => have := HK1.out; have := HK2.out; omega
             case rel => exact ⟨(x3_2), (wrap64 (x15_1 + 1)), (by first | rfl | (simp; done) | (simp [*]; done)), H', ⟨by have := HK1.out; have := HK2.out; omega⟩, ⟨by (with_reducible repeat (first | apply Kd.S_alloc | apply Kd.S_drewN | apply Kd.S_drew)); exact HO_3.out⟩, ⟨by (with_reducible repeat (first | apply Kd.R_alloc | apply Kd.R_drewN | apply Kd.R_drew)); exact HO_13.out⟩, ⟨by (with_reducible repeat (first | refine blk_drewN ?_ _ | refine blk_drew ?_ | refine blk_alloc ?_ _)); exact BK456.out⟩, ⟨by repeat (first | (with_reducible first | exact HB.out | apply below_alloc | apply pw_below_drewN | apply below_drew1 | refine below_set ?_ GE456.out) | exact HB.out)⟩⟩
         ·rw [if_neg c17] at H
          exact absurd H (by simp)
        ·replace c16 := Bool.eq_false_iff.mpr c16
         subst c16
         have H1 : (impl_Prog_preds.l0 k1 x3_1 t460 (t460.length : Int) (wrap64 (x15_1 + 1)) l0_0) = some r := by rw [if_neg (show ¬ (false = true) by decide)] at H; exact H
         clear H
         have H := H1
         clear H1
         have H' := Aside0.mk H
         clear H
         have p463 : 0 ≤ (x15_1 : Int) := of_decide_eq_true (by first | (with_reducible assumption) | assumption)
         have q463 : x15_1 < (t460.length : Int) := of_decide_eq_true (by first | (with_reducible assumption) | assumption)
         try (obtain ⟨Av_, cv_, ev_⟩ := Kd.R_slice HO_13.out; subst ev_)
         obtain ⟨ad463, e463, hx463_0⟩ := Kd.at_bool (Kd.R_reads' HO_13.out).2.2 x15_1 p463 q463
         (try rw [← Nbq15.out] at hx463_0)
         cases e463
         replace p463 := eq_true p463
         replace q463 := eq_true q463
         go_wp2
         go_roundg k1
         case measure => have := HK1.out; omega
         case rel => exact ⟨(x3_1), (wrap64 (x15_1 + 1)), (by first | rfl | (simp; done) | (simp [*]; done)), H', ⟨by have := HK1.out; omega⟩, ⟨by (with_reducible repeat (first | apply Kd.S_alloc | apply Kd.S_drewN | apply Kd.S_drew)); exact HO_3.out⟩, ⟨by (with_reducible repeat (first | apply Kd.R_alloc | apply Kd.R_drewN | apply Kd.R_drew)); exact HO_13.out⟩, ⟨by (with_reducible repeat (first | refine blk_drewN ?_ _ | refine blk_drew ?_ | refine blk_alloc ?_ _)); exact BK456.out⟩, ⟨by repeat (first | (with_reducible first | exact HB.out | apply below_alloc | apply pw_below_drewN | apply below_drew1 | refine below_set ?_ GE456.out) | exact HB.out)⟩⟩
       ·rw [if_neg c14] at H
        exact absurd H (by simp)
      ·rw [if_neg c13] at H
       exact absurd H (by simp)
     ·rw [if_neg c12] at H
      have c12b0 : decide (x15_1 < (t460.length : Int)) = false := decide_eq_false c12
      clear c12
      obtain rfl := Option.some.inj H
      go_wp2
      go_ret
      exact ⟨_, by first | rfl | (simp [errW_none, errW_some] <;> rfl) | (simp [*, errW_none, errW_some] <;> rfl), by (with_reducible repeat (first | apply Kd.S_alloc | apply Kd.S_drewN | apply Kd.S_drew)); exact HO_3.out, by repeat (first | (with_reducible first | exact HB.out | apply below_alloc | apply pw_below_drewN | apply below_drew1 | refine below_set ?_ GE456.out) | exact HB.out)⟩
  ·rw [if_neg c3] at H
   exact absurd H (by simp)
 ·rw [if_neg c2] at H
  exact absurd H (by simp)

end Go.Proofs.Ytkehjekbglajhaa.F
