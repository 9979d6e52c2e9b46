-- printed by wip/myprint.py, a program that runs the kit's print.py patched in memory; hand-made contracts stand where that program has none. Not trusted: Lean checks it.
import Derived.Test.YtkehjekbglajhaaK1F0
import Derived.Test.YtkehjekbglajhaaK1F4
import Derived.Test.YtkehjekbglajhaaK1F5
import Derived.Test.YtkehjekbglajhaaK1F8
import Derived.Test.YtkehjekbglajhaaK1F9
namespace Go.Proofs.Ytkehjekbglajhaa.F
open Go.RowKit Go.Proofs.YtkehjekbglajhaaW.PrintWords Go.Proofs.YtkehjekbglajhaaW.PrintLast
set_option linter.unusedVariables false
set_option linter.unusedSimpArgs false

def spec_l2All.l0 : Nat → List (List Bool) → List Int → Int → Int → Option (Bool)
 | 0, _, _, _, _ => none
 | k + 1, x0, x1, x2, x7 => if x7 < (x1.length : Int) then (if 0 ≤ x7 then (if 0 ≤ (rd x1 x7) then (if (rd x1 x7) < (x0.length : Int) then (if 0 ≤ x2 then (if x2 < ((rd_L9 x0 (rd x1 x7)).length : Int) then (if (rdOf false (rd_L9 x0 (rd x1 x7)) x2 = true) then (spec_l2All.l0 k x0 x1 x2 (wrap64 (x7 + 1))) else (some false)) else (none)) else (none)) else (none)) else (none)) else (none)) else (some true)
def spec_l2All.f (k : Nat) (l0 : List (List Bool)) (l1 : List Int) (a2 : Int) : Option (Bool) := spec_l2All.l0 k l0 l1 a2 0
set_option maxHeartbeats 8000000 in
set_option maxRecDepth 100000 in
theorem spec_l2All.calls (k : Nat) (A0 : Option Addr) (c0 : Nat) (l0 : List (List Bool)) (A1 : Option Addr) (c1 : Nat) (l1 : List Int) (a2 : Int) (r : Bool) (w : World) (hr0 : Kd.C (Kd.slice 4 Kd.bool) w A0 l0.length l0) (hc0 : l0.length ≤ c0) (hr1 : Kd.C (Kd.int .i64) w A1 l1.length l1) (hc1 : l1.length ≤ c1) (h : spec_l2All.f k l0 l1 a2 = some r) :
  Calls Try.prog 84 #[.slice A0 l0.length c0, .slice A1 l1.length c1, .int .i64 a2] w fun e w' => e = .returned (.bool r) ∧ Drawn0 w w' := by
 have HR0 := Aside0.mk hr0
 have HC0 := Aside0.mk hc0
 clear hr0 hc0
 have HR1 := Aside0.mk hr1
 have HC1 := Aside0.mk hc1
 clear hr1 hc1
 have H : (spec_l2All.l0 k l0 l1 a2 0) = some r := h
 clear h
 have H' := Aside0.mk H
 clear H
 go_enter Try.func84, Try.ntmps84
 go_wp2
 go_loopg [7] k (fun kq v7 w' => ∃ (x7_1 : Int), v7 = .int .i64 x7_1 ∧ Aside0 (spec_l2All.l0 kq l0 l1 a2 x7_1 = some r) ∧ Aside0 (kq ≤ k) ∧ Drawn0 w w')
 case atStart => exact ⟨(0), (by first | rfl | (simp; done) | (simp [*]; done)), H', ⟨Nat.le_refl _⟩, by repeat (first | exact Drawn0.refl _ | apply Drawn0.step)⟩
 case round =>
  clear H'
  try clear c1
  obtain ⟨x7_1, rfl, HA, HK1, ⟨m1, rfl⟩⟩ := hrel
  cases gk with
  | zero => exact absurd HA.out (by simp [spec_l2All.l0])
  | succ k1 =>
   have H := HA.out
   clear HA
   simp only [spec_l2All.l0] at H
   by_cases c4 : x7_1 < (l1.length : Int)
   ·rw [if_pos c4] at H
    have c4b0 : decide (x7_1 < (l1.length : Int)) = true := decide_eq_true c4
    clear c4
    by_cases c5 : 0 ≤ x7_1
    ·rw [if_pos c5] at H
     have c5b0 : decide (0 ≤ x7_1) = true := decide_eq_true c5
     clear c5
     by_cases c6 : 0 ≤ (rd l1 x7_1)
     ·rw [if_pos c6] at H
      have c6b0 : decide (0 ≤ (rd l1 x7_1)) = true := decide_eq_true c6
      clear c6
      by_cases c7 : (rd l1 x7_1) < (l0.length : Int)
      ·rw [if_pos c7] at H
       have c7b0 : decide ((rd l1 x7_1) < (l0.length : Int)) = true := decide_eq_true c7
       clear c7
       by_cases c8 : 0 ≤ a2
       ·rw [if_pos c8] at H
        have c8b0 : decide (0 ≤ a2) = true := decide_eq_true c8
        clear c8
        by_cases c9 : a2 < ((rd_L9 l0 (rd l1 x7_1)).length : Int)
        ·rw [if_pos c9] at H
         have c9b0 : decide (a2 < ((rd_L9 l0 (rd l1 x7_1)).length : Int)) = true := decide_eq_true c9
         clear c9
         obtain ⟨bq10, hbq10⟩ : ∃ b_ : Bool, b_ = (rdOf false (rd_L9 l0 (rd l1 x7_1)) a2) := ⟨_, rfl⟩
         replace H : (if (bq10 = true) then (spec_l2All.l0 k1 l0 l1 a2 (wrap64 (x7_1 + 1))) else (some false)) = some r := by rw [← hbq10] at H; exact H
         have Nbq10 := Aside0.mk hbq10
         clear hbq10
         by_cases c11 : (bq10 = true)
         ·subst c11
          have H1 : (spec_l2All.l0 k1 l0 l1 a2 (wrap64 (x7_1 + 1))) = some r := by rw [if_pos rfl] at H; exact H
          clear H
          have H := H1
          clear H1
          have H' := Aside0.mk H
          clear H
          have p484 : 0 ≤ (x7_1 : Int) := of_decide_eq_true (by first | (with_reducible assumption) | assumption)
          have q484 : x7_1 < (l1.length : Int) := of_decide_eq_true (by first | (with_reducible assumption) | assumption)
          obtain ⟨ad484, e484, hx484_0⟩ := Kd.at_int HR1.out x7_1 p484 q484
          cases e484
          replace p484 := eq_true p484
          replace q484 := eq_true q484
          have p485 : 0 ≤ ((rd l1 x7_1) : Int) := of_decide_eq_true (by first | (with_reducible assumption) | assumption)
          have q485 : (rd l1 x7_1) < (l0.length : Int) := of_decide_eq_true (by first | (with_reducible assumption) | assumption)
          obtain ⟨ad485, A485_0, c485_0, e485, hx485_0, hl485_0, hi485_0⟩ := at_L9 HR0.out (rd l1 x7_1) p485 q485
          cases e485
          have HR485_0 := Aside0.mk hi485_0
          have HC485_0 := Aside0.mk hl485_0
          clear hi485_0 hl485_0
          replace p485 := eq_true p485
          replace q485 := eq_true q485
          have p486 : 0 ≤ (a2 : Int) := of_decide_eq_true (by first | (with_reducible assumption) | assumption)
          have q486 : a2 < ((rd_L9 l0 (rd l1 x7_1)).length : Int) := of_decide_eq_true (by first | (with_reducible assumption) | assumption)
          obtain ⟨ad486, e486, hx486_0⟩ := Kd.at_bool HR485_0.out a2 p486 q486
          (try rw [← Nbq10.out] at hx486_0)
          cases e486
          replace p486 := eq_true p486
          replace q486 := eq_true q486
          go_wp2
          go_roundg k1
          case measure => have := HK1.out; omega
          case rel => exact ⟨(wrap64 (x7_1 + 1)), (by first | rfl | (simp; done) | (simp [*]; done)), H', ⟨by have := HK1.out; omega⟩, by repeat (first | exact Drawn0.refl _ | apply Drawn0.step)⟩
         ·replace c11 := Bool.eq_false_iff.mpr c11
          subst c11
          have H1 : (some false) = some r := by rw [if_neg (show ¬ (false = true) by decide)] at H; exact H
          clear H
          have H := H1
          clear H1
          obtain rfl := Option.some.inj H
          have p484 : 0 ≤ (x7_1 : Int) := of_decide_eq_true (by first | (with_reducible assumption) | assumption)
          have q484 : x7_1 < (l1.length : Int) := of_decide_eq_true (by first | (with_reducible assumption) | assumption)
          obtain ⟨ad484, e484, hx484_0⟩ := Kd.at_int HR1.out x7_1 p484 q484
          cases e484
          replace p484 := eq_true p484
          replace q484 := eq_true q484
          have p485 : 0 ≤ ((rd l1 x7_1) : Int) := of_decide_eq_true (by first | (with_reducible assumption) | assumption)
          have q485 : (rd l1 x7_1) < (l0.length : Int) := of_decide_eq_true (by first | (with_reducible assumption) | assumption)
          obtain ⟨ad485, A485_0, c485_0, e485, hx485_0, hl485_0, hi485_0⟩ := at_L9 HR0.out (rd l1 x7_1) p485 q485
          cases e485
          have HR485_0 := Aside0.mk hi485_0
          have HC485_0 := Aside0.mk hl485_0
          clear hi485_0 hl485_0
          replace p485 := eq_true p485
          replace q485 := eq_true q485
          have p486 : 0 ≤ (a2 : Int) := of_decide_eq_true (by first | (with_reducible assumption) | assumption)
          have q486 : a2 < ((rd_L9 l0 (rd l1 x7_1)).length : Int) := of_decide_eq_true (by first | (with_reducible assumption) | assumption)
          obtain ⟨ad486, e486, hx486_0⟩ := Kd.at_bool HR485_0.out a2 p486 q486
          (try rw [← Nbq10.out] at hx486_0)
          cases e486
          replace p486 := eq_true p486
          replace q486 := eq_true q486
          go_wp2
          go_ret
          exact ⟨by first | rfl | (simp; done) | (simp [*]; done), by repeat (first | exact Drawn0.refl _ | apply Drawn0.step)⟩
        ·rw [if_neg c9] at H
         exact absurd H (by simp)
       ·rw [if_neg c8] at H
        exact absurd H (by simp)
      ·rw [if_neg c7] at H
       exact absurd H (by simp)
     ·rw [if_neg c6] at H
      exact absurd H (by simp)
    ·rw [if_neg c5] at H
     exact absurd H (by simp)
   ·rw [if_neg c4] at H
    have c4b0 : decide (x7_1 < (l1.length : Int)) = false := decide_eq_false c4
    clear c4
    obtain rfl := Option.some.inj H
    go_wp2
    go_ret
    exact ⟨by first | rfl | (simp; done) | (simp [*]; done), by repeat (first | exact Drawn0.refl _ | apply Drawn0.step)⟩

mutual
def spec_FlowDoms.l0 : Nat → List (List Bool) → List Bool → List (List Int) → Int → List (S68) → Option ((List (List Bool)))
 | 0, _, _, _, _, _ => none
 | k + 1, x3, x4, x5, x6, x488000 => if x6 < (x488000.length : Int) then (if 0 ≤ (x488000.length : Int) then (if ((x488000.length : Int) : Int).toNat ≤ 281474976710656 then (spec_FlowDoms.l1 k x3 x4 x5 x6 (List.replicate ((x488000.length : Int) : Int).toNat false) 0 x488000) else (none)) else (none)) else (spec_FlowDoms.l2 k x3 x5 true x488000)
def spec_FlowDoms.l1 : Nat → List (List Bool) → List Bool → List (List Int) → Int → List Bool → Int → List (S68) → Option ((List (List Bool)))
 | 0, _, _, _, _, _, _, _ => none
 | k + 1, x3, x4, x5, x6, x7, x8, x488000 => if x8 < (x488000.length : Int) then (if 0 ≤ x6 then (if x6 < (x4.length : Int) then (if rdOf false x4 x6 = true then (if 0 ≤ x8 then (if x8 < (x4.length : Int) then (if rdOf false x4 x8 = true then (if x6 > 0 then (if x8 < (x7.length : Int) then (spec_FlowDoms.l1 k x3 x4 x5 x6 (x7.set (x8 : Int).toNat true) (wrap64 (x8 + 1)) x488000) else (none)) else (if x8 < (x7.length : Int) then (spec_FlowDoms.l1 k x3 x4 x5 x6 (x7.set (x8 : Int).toNat (x8 == 0)) (wrap64 (x8 + 1)) x488000) else (none))) else (if x8 < (x7.length : Int) then (spec_FlowDoms.l1 k x3 x4 x5 x6 (x7.set (x8 : Int).toNat false) (wrap64 (x8 + 1)) x488000) else (none))) else (none)) else (none)) else (if 0 ≤ x8 then (if x8 < (x7.length : Int) then (spec_FlowDoms.l1 k x3 x4 x5 x6 (x7.set (x8 : Int).toNat false) (wrap64 (x8 + 1)) x488000) else (none)) else (none))) else (none)) else (none)) else (if x3.length < 5864062014805 then (spec_FlowDoms.l0 k (x3 ++ [x7]) x4 x5 (wrap64 (x6 + 1)) x488000) else (none))
def spec_FlowDoms.l2 : Nat → List (List Bool) → List (List Int) → Bool → List (S68) → Option ((List (List Bool)))
 | 0, _, _, _, _ => none
 | k + 1, x3, x5, x9, x488000 => if x9 = true then (spec_FlowDoms.l3 k x3 x5 false 1 x488000) else (some x3)
def spec_FlowDoms.l3 : Nat → List (List Bool) → List (List Int) → Bool → Int → List (S68) → Option ((List (List Bool)))
 | 0, _, _, _, _, _ => none
 | k + 1, x3, x5, x9, x10, x488000 => if x10 < (x488000.length : Int) then (spec_FlowDoms.l4 k x3 x5 x9 x10 0 x488000) else (spec_FlowDoms.l2 k x3 x5 x9 x488000)
def spec_FlowDoms.l4 : Nat → List (List Bool) → List (List Int) → Bool → Int → Int → List (S68) → Option ((List (List Bool)))
 | 0, _, _, _, _, _, _ => none
 | k + 1, x3, x5, x9, x10, x11, x488000 => if x11 < (x488000.length : Int) then (if 0 ≤ x10 then (if x10 < (x3.length : Int) then (if 0 ≤ x11 then (if x11 < ((rd_L9 x3 x10).length : Int) then (if rdOf false (rd_L9 x3 x10) x11 = true then (if x11 = x10 then (spec_FlowDoms.l4 k x3 x5 x9 x10 (wrap64 (x11 + 1)) x488000) else (if x10 < (x5.length : Int) then ((spec_l2All.f k x3 (rd_L2 x5 x10) x11).bind fun t513 => (if t513 = true then (spec_FlowDoms.l4 k x3 x5 x9 x10 (wrap64 (x11 + 1)) x488000) else (spec_FlowDoms.l4 k (x3.set (x10 : Int).toNat ((rd_L9 x3 x10).set (x11 : Int).toNat false)) x5 true x10 (wrap64 (x11 + 1)) x488000))) else (none))) else (spec_FlowDoms.l4 k x3 x5 x9 x10 (wrap64 (x11 + 1)) x488000)) else (none)) else (none)) else (none)) else (none)) else (spec_FlowDoms.l3 k x3 x5 x9 (wrap64 (x10 + 1)) x488000)
end
def spec_FlowDoms.f (k : Nat) (l0_0 : List (S68)) : Option ((List (List Bool))) := (some (([] : List (List Bool)) : List (List Bool))).bind fun y488 => ((spec_ProgOk.f k l0_0).bind fun t491 => (if t491 = true then ((spec_FlowReach.f k l0_0).bind fun t492 => ((spec_FlowPreds.f k l0_0).bind fun t495 => (spec_FlowDoms.l0 k y488 t492 t495 0 l0_0))) else (some y488)))
set_option maxHeartbeats 8000000 in
set_option maxRecDepth 100000 in
theorem spec_FlowDoms.calls (k : Nat) (A0_0 : Option Addr) (c0_0 : Nat) (l0_0 : List (S68)) (r : List (List Bool)) (w : World) (hr0_0 : Kd.C k68 w A0_0 l0_0.length l0_0) (hc0_0 : l0_0.length ≤ c0_0) (h : spec_FlowDoms.f k l0_0 = some r) :
  Calls Try.prog 41 #[.agg #[.slice A0_0 l0_0.length c0_0]] w fun e w' => ∃ v0_ : Value, e = .returned (v0_) ∧ Kd.S (Kd.slice 4 Kd.bool) 33 w' w.heap.size (fun _ => True) v0_ r ∧ Below w.heap.size w w' := by
 have hu29 := Try.underlying29
 have HR0_0 := Aside0.mk hr0_0
 have HC0_0 := Aside0.mk hc0_0
 clear hr0_0 hc0_0
 have HB := Aside0.mk (Below.refl w.heap.size w)
 have H : ((some (([] : List (List Bool)) : List (List Bool))).bind fun y488 => ((spec_ProgOk.f k l0_0).bind fun t491 => (if t491 = true then ((spec_FlowReach.f k l0_0).bind fun t492 => ((spec_FlowPreds.f k l0_0).bind fun t495 => (spec_FlowDoms.l0 k y488 t492 t495 0 l0_0))) else (some y488)))) = some r := h
 clear h
 obtain ⟨y488, hy488⟩ : ∃ y_ : List (List Bool), y_ = (([] : List (List Bool))) := ⟨_, rfl⟩
 replace H : ((spec_ProgOk.f k l0_0).bind fun t491 => (if t491 = true then ((spec_FlowReach.f k l0_0).bind fun t492 => ((spec_FlowPreds.f k l0_0).bind fun t495 => (spec_FlowDoms.l0 k y488 t492 t495 0 l0_0))) else (some y488))) = some r := by first | (rw [hy488]; with_reducible exact H) | (have H2_ := (Option.bind_some _ _).symm.trans H; rw [hy488]; with_reducible exact H2_) | (have H2_ := (Option.bind_some _ _).symm.trans H; with_reducible exact H2_) | with_reducible exact H | (rw [hy488]; exact H) | exact H
 have Ny488 := Aside0.mk hy488
 clear hy488
 replace H := Option.bind_eq_some_iff.mp H
 obtain ⟨t491, A20, H⟩ := H
 replace H : (if t491 = true then ((spec_FlowReach.f k l0_0).bind fun t492 => ((spec_FlowPreds.f k l0_0).bind fun t495 => (spec_FlowDoms.l0 k y488 t492 t495 0 l0_0))) else (some y488)) = some r := H
 have A2 := Aside0.mk A20
 clear A20
 by_cases c3 : t491 = true
 ·subst c3
  have H1 : ((spec_FlowReach.f k l0_0).bind fun t492 => ((spec_FlowPreds.f k l0_0).bind fun t495 => (spec_FlowDoms.l0 k y488 t492 t495 0 l0_0))) = some r := by rw [if_pos rfl] at H; exact H
  clear H
  have H := H1
  clear H1
  replace H := Option.bind_eq_some_iff.mp H
  obtain ⟨t492, A40, H⟩ := H
  replace H : ((spec_FlowPreds.f k l0_0).bind fun t495 => (spec_FlowDoms.l0 k y488 t492 t495 0 l0_0)) = some r := H
  have A4 := Aside0.mk A40
  clear A40
  replace H := Option.bind_eq_some_iff.mp H
  obtain ⟨t495, A50, H⟩ := H
  replace H : (spec_FlowDoms.l0 k y488 t492 t495 0 l0_0) = some r := H
  have A5 := Aside0.mk A50
  clear A50
  have H' := Aside0.mk H
  clear H
  go_enter Try.func41, Try.ntmps41
  go_wp2_with (first | ((with_reducible refine gate_dst (N := 1) rfl ?_); refine box_event ?hg (N := 1) ?hd (cs := #[.slice A0_0 l0_0.length c0_0]) (t := 29) ?hr ?_; (case hd => rfl); (case hg => rfl); (case hr => first | (go_simp; done) | (go_simp; rfl)); intro gb487 hg w6 hbox hb; have n_ := boxed (bel HB.out) hb hbox hg; clear HB hb hbox hg; obtain ⟨HB, BK487, GW487, GE487⟩ := n_) | ((with_reducible refine gate_dst (N := 12) rfl ?_); refine Kd.S_lit (Kd.slice 4 Kd.bool) _ 33 ?hg (N := 12) ?hd (xs := ([] : List (List Bool))) (inner := []) (ok := fun _ => True) (okp := fun _ => True) ?hr ?hp (fun _ hk => hk) trivial (Below.refl _ _) (Nat.le_refl _) (by simp) ?_; (case hd => rfl); (case hg => rfl); (case hr => first | (go_simp; done) | (go_simp; rfl)); (case hp => exact (Reps.none _ _)); intro v489 w7 ho8 hb hg_ hnew_; clear hg_ hnew_; (first | rw [← Ny488.out] at ho8 | (simp only [Int.reduceToNat] at ho8; rw [← Ny488.out] at ho8)); have n0_ := Aside0.mk (Kd.S_lower ho8 (below_size (by repeat (first | (with_reducible first | exact HB.out | apply below_alloc | apply pw_below_drewN | apply below_drew1 | refine below_set ?_ GE487.out) | exact HB.out)))); have n1_ := Aside0.mk (blk_below (g := gb487) (o := .cells #[.slice A0_0 l0_0.length c0_0] 29 (0, 0)) (by (with_reducible repeat (first | refine blk_drewN ?_ _ | refine blk_drew ?_ | refine blk_alloc ?_ _)); exact BK487.out) hb); have n2_ := Aside0.mk (below_step (by repeat (first | (with_reducible first | exact HB.out | apply below_alloc | apply pw_below_drewN | apply below_drew1 | refine below_set ?_ GE487.out) | exact HB.out)) hb); clear BK487; clear HB; have HO490 := n0_; have BK487 := n1_; have HB := n2_; clear n0_ n1_ n2_; clear hb ho8; have hcz9_0 : w7.cell? ⟨gb487, 0, none⟩ = some (.slice A0_0 l0_0.length c0_0) := (blk_cell BK487.out 0).trans rfl; have hfz9_0 := blk_frozen BK487.out 0) | ((with_reducible refine gate_callee (f := 60) rfl ?_); refine goesL_ (some 14) rfl rfl Try.func60 (by kernel_rfl) rfl #[.agg #[.slice A0_0 l0_0.length c0_0]] rfl (by (try simp only [List.map_toArray, List.map_cons, List.map_nil]); first | done | rfl | (simp only [List.length_drop, List.length_take]; rfl)) ?_; (with_reducible refine (spec_ProgOk.calls k _ _ l0_0 true _ ?side1 ?side2 A2.out).mono ?_); (case side1 => repeat (first | exact (Kd.C_below HR0_0.out HB.out) | (with_reducible refine Kd.C_alloc ?_ _) | (with_reducible refine Kd.C_drewN ?_ _) | (with_reducible refine Kd.C_drew ?_))); (case side2 => exact HC0_0.out); rintro e w10 ⟨rfl, hb⟩; refine ⟨_, rfl, ?_⟩; have n0_ := Aside0.mk (Kd.S_below (by (with_reducible repeat (first | apply Kd.S_alloc | apply Kd.S_drewN | apply Kd.S_drew)); exact HO490.out) hb); have n1_ := Aside0.mk (blk_below (g := gb487) (o := .cells #[.slice A0_0 l0_0.length c0_0] 29 (0, 0)) (by (with_reducible repeat (first | refine blk_drewN ?_ _ | refine blk_drew ?_ | refine blk_alloc ?_ _)); exact BK487.out) hb); have n2_ := Aside0.mk (below_step (by repeat (first | (with_reducible first | exact HB.out | apply below_alloc | apply pw_below_drewN | apply below_drew1 | refine below_set ?_ GE487.out) | exact HB.out)) hb); clear HO490; clear BK487; clear HB; have HO490 := n0_; have BK487 := n1_; have HB := n2_; clear n0_ n1_ n2_; (try clear hb); (try clear hb2); (try clear hk); (try clear hi); have hcz11_0 : w10.cell? ⟨gb487, 0, none⟩ = some (.slice A0_0 l0_0.length c0_0) := (blk_cell BK487.out 0).trans rfl; have hfz11_0 := blk_frozen BK487.out 0) | ((with_reducible refine gate_callee (f := 20) rfl ?_); refine goesL_ (some 18) rfl rfl Try.func20 (by kernel_rfl) rfl #[.agg #[.slice A0_0 l0_0.length c0_0]] rfl (by (try simp only [List.map_toArray, List.map_cons, List.map_nil]); first | done | rfl | (simp only [List.length_drop, List.length_take]; rfl)) ?_; (with_reducible refine (spec_FlowReach.calls k _ _ l0_0 t492 _ ?side1 ?side2 A4.out).mono ?_); (case side1 => repeat (first | exact (Kd.C_below HR0_0.out HB.out) | (with_reducible refine Kd.C_alloc ?_ _) | (with_reducible refine Kd.C_drewN ?_ _) | (with_reducible refine Kd.C_drew ?_))); (case side2 => exact HC0_0.out); rintro e w12 ⟨v493, rfl, ho0, hb⟩; refine ⟨_, rfl, ?_⟩; have n0_ := Aside0.mk (Kd.S_elder' (by (with_reducible repeat (first | apply Kd.S_alloc | apply Kd.S_drewN | apply Kd.S_drew)); exact HO490.out) (Kd.R_base ho0) hb); have n1_ := Aside0.mk (Kd.R_lower ho0 (below_size (by repeat (first | (with_reducible first | exact HB.out | apply below_alloc | apply pw_below_drewN | apply below_drew1 | refine below_set ?_ GE487.out) | exact HB.out)))); have n2_ := Aside0.mk (blk_below (g := gb487) (o := .cells #[.slice A0_0 l0_0.length c0_0] 29 (0, 0)) (by (with_reducible repeat (first | refine blk_drewN ?_ _ | refine blk_drew ?_ | refine blk_alloc ?_ _)); exact BK487.out) hb); have n3_ := Aside0.mk (below_step (by repeat (first | (with_reducible first | exact HB.out | apply below_alloc | apply pw_below_drewN | apply below_drew1 | refine below_set ?_ GE487.out) | exact HB.out)) hb); clear HO490; clear BK487; clear HB; have HO490 := n0_; have HO494 := n1_; have BK487 := n2_; have HB := n3_; clear n0_ n1_ n2_ n3_; (try clear hb); (try clear hb2); (try clear hk); (try clear hi); (try clear ho0); have hcz13_0 : w12.cell? ⟨gb487, 0, none⟩ = some (.slice A0_0 l0_0.length c0_0) := (blk_cell BK487.out 0).trans rfl; have hfz13_0 := blk_frozen BK487.out 0) | ((with_reducible refine gate_callee (f := 36) rfl ?_); refine goesL_ (some 20) rfl rfl Try.func36 (by kernel_rfl) rfl #[.agg #[.slice A0_0 l0_0.length c0_0]] rfl (by (try simp only [List.map_toArray, List.map_cons, List.map_nil]); first | done | rfl | (simp only [List.length_drop, List.length_take]; rfl)) ?_; (with_reducible refine (spec_FlowPreds.calls k _ _ l0_0 t495 _ ?side1 ?side2 A5.out).mono ?_); (case side1 => repeat (first | exact (Kd.C_below HR0_0.out HB.out) | (with_reducible refine Kd.C_alloc ?_ _) | (with_reducible refine Kd.C_drewN ?_ _) | (with_reducible refine Kd.C_drew ?_))); (case side2 => exact HC0_0.out); rintro e w14 ⟨v496, rfl, ho0, hb⟩; refine ⟨_, rfl, ?_⟩; have n0_ := Aside0.mk (Kd.S_below (by (with_reducible repeat (first | apply Kd.S_alloc | apply Kd.S_drewN | apply Kd.S_drew)); exact HO490.out) hb); have n1_ := Aside0.mk (Kd.R_below (by (with_reducible repeat (first | apply Kd.R_alloc | apply Kd.R_drewN | apply Kd.R_drew)); exact HO494.out) hb); have n2_ := Aside0.mk (Kd.S_lower ho0 (below_size (by repeat (first | (with_reducible first | exact HB.out | apply below_alloc | apply pw_below_drewN | apply below_drew1 | refine below_set ?_ GE487.out) | exact HB.out)))); have n3_ := Aside0.mk (blk_below (g := gb487) (o := .cells #[.slice A0_0 l0_0.length c0_0] 29 (0, 0)) (by (with_reducible repeat (first | refine blk_drewN ?_ _ | refine blk_drew ?_ | refine blk_alloc ?_ _)); exact BK487.out) hb); have n4_ := Aside0.mk (below_step (by repeat (first | (with_reducible first | exact HB.out | apply below_alloc | apply pw_below_drewN | apply below_drew1 | refine below_set ?_ GE487.out) | exact HB.out)) hb); clear HO490; clear HO494; clear BK487; clear HB; have HO490 := n0_; have HO494 := n1_; have HO497 := n2_; have BK487 := n3_; have HB := n4_; clear n0_ n1_ n2_ n3_ n4_; (try clear hb); (try clear hb2); (try clear hk); (try clear hi); (try clear ho0)))
  go_loopg [3, 6] k (fun kq v3 v6 w' => ∃ (x3_1 : List (List Bool)) (x4_1 : List Bool) (x6_1 : Int), v6 = .int .i64 x6_1 ∧ Aside0 (spec_FlowDoms.l0 kq x3_1 x4_1 t495 x6_1 l0_0 = some r) ∧ Aside0 (kq ≤ k) ∧ Aside0 (Kd.S (Kd.slice 4 Kd.bool) 33 w' w.heap.size (fun k_ => some k_ ≠ (v493 : Value).ownBlock) v3 x3_1) ∧ Aside0 (Kd.R Kd.bool 4 w' w.heap.size (fun _ => True) v493 x4_1) ∧ Aside0 (Kd.S (Kd.slice 3 (Kd.int .i64)) 60 w' w.heap.size (fun _ => True) v496 t495) ∧ Aside0 (w'.heap[gb487]? = some (.cells #[(.slice A0_0 l0_0.length c0_0)] 29 (0, 0))) ∧ Aside0 (Below w.heap.size w w'))
  case atStart => exact ⟨(y488), (t492), (0), (by first | rfl | (simp; done) | (simp [*]; done)), H', ⟨Nat.le_refl _⟩, ⟨by (with_reducible repeat (first | apply Kd.S_alloc | apply Kd.S_drewN | apply Kd.S_drew)); exact Kd.S_mono HO490.out (fun _ hk => hk.2)⟩, ⟨by (with_reducible repeat (first | apply Kd.R_alloc | apply Kd.R_drewN | apply Kd.R_drew)); exact HO494.out⟩, ⟨by (with_reducible repeat (first | apply Kd.S_alloc | apply Kd.S_drewN | apply Kd.S_drew)); exact HO497.out⟩, ⟨by (with_reducible repeat (first | refine blk_drewN ?_ _ | refine blk_drew ?_ | refine blk_alloc ?_ _)); exact BK487.out⟩, ⟨by repeat (first | (with_reducible first | exact HB.out | apply below_alloc | apply pw_below_drewN | apply below_drew1 | refine below_set ?_ GE487.out) | exact HB.out)⟩⟩
  case round =>
   clear H'
   (try clear c3); (try clear hcz11_0); (try clear hcz13_0); (try clear hcz9_0); (try clear hfz11_0); (try clear hfz13_0); (try clear hfz9_0)
   obtain ⟨x3_1, x4_1, x6_1, rfl, HA, HK1, HO_3, HO_4, HO_5, BK487, HB⟩ := hrel
   cases gk with
   | zero => exact absurd HA.out (by simp [spec_FlowDoms.l0])
   | succ k1 =>
    have H := HA.out
    clear HA
    simp only [spec_FlowDoms.l0] at H
    by_cases c15 : x6_1 < (l0_0.length : Int)
    ·rw [if_pos c15] at H
     have c15b0 : decide (x6_1 < (l0_0.length : Int)) = true := decide_eq_true c15
     clear c15
     by_cases c16 : 0 ≤ (l0_0.length : Int)
     ·rw [if_pos c16] at H
      have c16b0 := eq_true c16
      have c16b1 : decide (0 ≤ (l0_0.length : Int)) = true := decide_eq_true c16
      clear c16
      by_cases c17 : ((l0_0.length : Int) : Int).toNat ≤ 281474976710656
      ·rw [if_pos c17] at H
       have c17b0 := eq_true c17
       have c17b1 : decide (((l0_0.length : Int) : Int).toNat ≤ 281474976710656) = true := decide_eq_true c17
       clear c17
       obtain ⟨y498, hy498⟩ : ∃ y_ : List Bool, y_ = (List.replicate ((l0_0.length : Int) : Int).toNat false) := ⟨_, rfl⟩
       replace H : (spec_FlowDoms.l1 k1 x3_1 x4_1 t495 x6_1 y498 0 l0_0) = some r := by first | (rw [hy498]; with_reducible exact H) | (have H2_ := (Option.bind_some _ _).symm.trans H; rw [hy498]; with_reducible exact H2_) | (have H2_ := (Option.bind_some _ _).symm.trans H; with_reducible exact H2_) | with_reducible exact H | (rw [hy498]; exact H) | exact H
       have Ny498 := Aside0.mk hy498
       clear hy498
       have H' := Aside0.mk H
       clear H
       have hcz18_0 : wr.cell? ⟨gb487, 0, none⟩ = some (.slice A0_0 l0_0.length c0_0) := (blk_cell BK487.out 0).trans rfl
       have hfz18_0 := blk_frozen BK487.out 0
       go_wp2_with (first | ((with_reducible refine gate_dst (N := 31) rfl ?_); refine Kd.R_make Kd.bool _ 4 rfl (N := 31) rfl 33 _ _ rfl (l0_0.length : Int) rfl rfl Try.underlying33 (.bool false) 1 info4 rfl (by decide) (by omega) false (ok := fun _ => True) (okp := fun _ => True) rfl (fun _ hk => hk) trivial (of_decide_eq_true (by first | (with_reducible assumption) | assumption)) (Nat.le_trans (Nat.mul_le_mul_right _ (of_decide_eq_true (by first | (with_reducible assumption) | assumption) : (l0_0.length : Int).toNat ≤ 281474976710656)) (by omega)) (Below.refl _ _) (Nat.le_refl _) ?_; intro v499 w19 ho20 hb hg_ hnew_; clear hg_ hnew_; (first | rw [← Ny498.out] at ho20 | (simp only [Int.reduceToNat] at ho20; rw [← Ny498.out] at ho20)); have n0_ := Aside0.mk (Kd.S_elder' (by (with_reducible repeat (first | apply Kd.S_alloc | apply Kd.S_drewN | apply Kd.S_drew)); exact HO_3.out) (Kd.R_base ho20) hb); have n1_ := Aside0.mk (Kd.R_elder' (by (with_reducible repeat (first | apply Kd.R_alloc | apply Kd.R_drewN | apply Kd.R_drew)); exact HO_4.out) (Kd.R_base ho20) hb); have n2_ := Aside0.mk (Kd.S_below (by (with_reducible repeat (first | apply Kd.S_alloc | apply Kd.S_drewN | apply Kd.S_drew)); exact HO_5.out) hb); have n3_ := Aside0.mk (Kd.R_lower (Kd.R_new' ho20 (Kd.R_lt (by (with_reducible repeat (first | apply Kd.R_alloc | apply Kd.R_drewN | apply Kd.R_drew)); exact HO_4.out))) (below_size (by repeat (first | (with_reducible first | exact HB.out | apply below_alloc | apply pw_below_drewN | apply below_drew1 | refine below_set ?_ GE487.out) | exact HB.out)))); have n4_ := Aside0.mk (blk_below (g := gb487) (o := .cells #[.slice A0_0 l0_0.length c0_0] 29 (0, 0)) (by (with_reducible repeat (first | refine blk_drewN ?_ _ | refine blk_drew ?_ | refine blk_alloc ?_ _)); exact BK487.out) hb); have n5_ := Aside0.mk (below_step (by repeat (first | (with_reducible first | exact HB.out | apply below_alloc | apply pw_below_drewN | apply below_drew1 | refine below_set ?_ GE487.out) | exact HB.out)) hb); clear HO_3; clear HO_4; clear HO_5; clear BK487; clear HB; have HO_3 := n0_; have HO_4 := n1_; have HO_5 := n2_; have HO500 := n3_; have BK487 := n4_; have HB := n5_; clear n0_ n1_ n2_ n3_ n4_ n5_; clear hb ho20))
       go_loopg [8] k1 (fun kq v8 w' => ∃ (x7_2 : List Bool) (x8_2 : Int), v8 = .int .i64 x8_2 ∧ Aside0 (spec_FlowDoms.l1 kq x3_1 x4_1 t495 x6_1 x7_2 x8_2 l0_0 = some r) ∧ Aside0 (kq ≤ k1) ∧ Aside0 (Kd.S (Kd.slice 4 Kd.bool) 33 w' w.heap.size (fun k_ => some k_ ≠ (v493 : Value).ownBlock ∧ some k_ ≠ (v499 : Value).ownBlock) u3 x3_1) ∧ Aside0 (Kd.R Kd.bool 4 w' w.heap.size (fun k_ => some k_ ≠ (v499 : Value).ownBlock) v493 x4_1) ∧ Aside0 (Kd.S (Kd.slice 3 (Kd.int .i64)) 60 w' w.heap.size (fun _ => True) v496 t495) ∧ Aside0 (Kd.R Kd.bool 4 w' w.heap.size (fun k_ => some k_ ≠ (v493 : Value).ownBlock) v499 x7_2) ∧ Aside0 (w'.heap[gb487]? = some (.cells #[(.slice A0_0 l0_0.length c0_0)] 29 (0, 0))) ∧ Aside0 (Below w.heap.size w w'))
       case atStart => exact ⟨(y498), (0), (by first | rfl | (simp; done) | (simp [*]; done)), H', ⟨Nat.le_refl _⟩, ⟨by (with_reducible repeat (first | apply Kd.S_alloc | apply Kd.S_drewN | apply Kd.S_drew)); exact HO_3.out⟩, ⟨by (with_reducible repeat (first | apply Kd.R_alloc | apply Kd.R_drewN | apply Kd.R_drew)); exact Kd.R_mono HO_4.out (fun _ hk => hk.2)⟩, ⟨by (with_reducible repeat (first | apply Kd.S_alloc | apply Kd.S_drewN | apply Kd.S_drew)); exact HO_5.out⟩, ⟨by (with_reducible repeat (first | apply Kd.R_alloc | apply Kd.R_drewN | apply Kd.R_drew)); exact Kd.R_mono HO500.out (fun _ hk => hk.2)⟩, ⟨by (with_reducible repeat (first | refine blk_drewN ?_ _ | refine blk_drew ?_ | refine blk_alloc ?_ _)); exact BK487.out⟩, ⟨by repeat (first | (with_reducible first | exact HB.out | apply below_alloc | apply pw_below_drewN | apply below_drew1 | refine below_set ?_ GE487.out) | exact HB.out)⟩⟩
       case round =>
        clear H'
        (try clear c3); (try clear c15); (try clear c15b0); (try clear c16); (try clear c16b0); (try clear c16b1); (try clear c17); (try clear c17b0); (try clear c17b1); (try clear hcz11_0); (try clear hcz13_0); (try clear hcz18_0); (try clear hcz9_0); (try clear hfz11_0); (try clear hfz13_0); (try clear hfz18_0); (try clear hfz9_0)
        obtain ⟨x7_2, x8_2, rfl, HA, HK2, HO_3, HO_4, HO_5, HO_7, BK487, HB⟩ := hrel
        cases gk with
        | zero => exact absurd HA.out (by simp [spec_FlowDoms.l1])
        | succ k2 =>
         have H := HA.out
         clear HA
         simp only [spec_FlowDoms.l1] at H
         by_cases c21 : x8_2 < (l0_0.length : Int)
         ·rw [if_pos c21] at H
          have c21b0 : decide (x8_2 < (l0_0.length : Int)) = true := decide_eq_true c21
          clear c21
          by_cases c22 : 0 ≤ x6_1
          ·rw [if_pos c22] at H
           have c22b0 : decide (0 ≤ x6_1) = true := decide_eq_true c22
           clear c22
           by_cases c23 : x6_1 < (x4_1.length : Int)
           ·rw [if_pos c23] at H
            have c23b0 : decide (x6_1 < (x4_1.length : Int)) = true := decide_eq_true c23
            clear c23
            obtain ⟨bq24, hbq24⟩ : ∃ b_ : Bool, b_ = (rdOf false x4_1 x6_1) := ⟨_, rfl⟩
            replace H : (if bq24 = true then (if 0 ≤ x8_2 then (if x8_2 < (x4_1.length : Int) then (if rdOf false x4_1 x8_2 = true then (if x6_1 > 0 then (if x8_2 < (x7_2.length : Int) then (spec_FlowDoms.l1 k2 x3_1 x4_1 t495 x6_1 (x7_2.set (x8_2 : Int).toNat true) (wrap64 (x8_2 + 1)) l0_0) else (none)) else (if x8_2 < (x7_2.length : Int) then (spec_FlowDoms.l1 k2 x3_1 x4_1 t495 x6_1 (x7_2.set (x8_2 : Int).toNat (x8_2 == 0)) (wrap64 (x8_2 + 1)) l0_0) else (none))) else (if x8_2 < (x7_2.length : Int) then (spec_FlowDoms.l1 k2 x3_1 x4_1 t495 x6_1 (x7_2.set (x8_2 : Int).toNat false) (wrap64 (x8_2 + 1)) l0_0) else (none))) else (none)) else (none)) else (if 0 ≤ x8_2 then (if x8_2 < (x7_2.length : Int) then (spec_FlowDoms.l1 k2 x3_1 x4_1 t495 x6_1 (x7_2.set (x8_2 : Int).toNat false) (wrap64 (x8_2 + 1)) l0_0) else (none)) else (none))) = some r := by rw [← hbq24] at H; exact H
            have Nbq24 := Aside0.mk hbq24
            clear hbq24
            by_cases c25 : bq24 = true
            ·subst c25
             have H1 : (if 0 ≤ x8_2 then (if x8_2 < (x4_1.length : Int) then (if rdOf false x4_1 x8_2 = true then (if x6_1 > 0 then (if x8_2 < (x7_2.length : Int) then (spec_FlowDoms.l1 k2 x3_1 x4_1 t495 x6_1 (x7_2.set (x8_2 : Int).toNat true) (wrap64 (x8_2 + 1)) l0_0) else (none)) else (if x8_2 < (x7_2.length : Int) then (spec_FlowDoms.l1 k2 x3_1 x4_1 t495 x6_1 (x7_2.set (x8_2 : Int).toNat (x8_2 == 0)) (wrap64 (x8_2 + 1)) l0_0) else (none))) else (if x8_2 < (x7_2.length : Int) then (spec_FlowDoms.l1 k2 x3_1 x4_1 t495 x6_1 (x7_2.set (x8_2 : Int).toNat false) (wrap64 (x8_2 + 1)) l0_0) else (none))) else (none)) else (none)) = some r := by rw [if_pos rfl] at H; exact H
             clear H
             have H := H1
             clear H1
             by_cases c26 : 0 ≤ x8_2
             ·rw [if_pos c26] at H
              have c26b0 : decide (0 ≤ x8_2) = true := decide_eq_true c26
              clear c26
              by_cases c27 : x8_2 < (x4_1.length : Int)
              ·rw [if_pos c27] at H
               have c27b0 : decide (x8_2 < (x4_1.length : Int)) = true := decide_eq_true c27
               clear c27
               obtain ⟨bq28, hbq28⟩ : ∃ b_ : Bool, b_ = (rdOf false x4_1 x8_2) := ⟨_, rfl⟩
               replace H : (if bq28 = true then (if x6_1 > 0 then (if x8_2 < (x7_2.length : Int) then (spec_FlowDoms.l1 k2 x3_1 x4_1 t495 x6_1 (x7_2.set (x8_2 : Int).toNat true) (wrap64 (x8_2 + 1)) l0_0) else (none)) else (if x8_2 < (x7_2.length : Int) then (spec_FlowDoms.l1 k2 x3_1 x4_1 t495 x6_1 (x7_2.set (x8_2 : Int).toNat (x8_2 == 0)) (wrap64 (x8_2 + 1)) l0_0) else (none))) else (if x8_2 < (x7_2.length : Int) then (spec_FlowDoms.l1 k2 x3_1 x4_1 t495 x6_1 (x7_2.set (x8_2 : Int).toNat false) (wrap64 (x8_2 + 1)) l0_0) else (none))) = some r := by rw [← hbq28] at H; exact H
               have Nbq28 := Aside0.mk hbq28
               clear hbq28
               by_cases c29 : bq28 = true
               ·subst c29
                have H1 : (if x6_1 > 0 then (if x8_2 < (x7_2.length : Int) then (spec_FlowDoms.l1 k2 x3_1 x4_1 t495 x6_1 (x7_2.set (x8_2 : Int).toNat true) (wrap64 (x8_2 + 1)) l0_0) else (none)) else (if x8_2 < (x7_2.length : Int) then (spec_FlowDoms.l1 k2 x3_1 x4_1 t495 x6_1 (x7_2.set (x8_2 : Int).toNat (x8_2 == 0)) (wrap64 (x8_2 + 1)) l0_0) else (none))) = some r := by rw [if_pos rfl] at H; exact H
                clear H
                have H := H1
                clear H1
                by_cases c30 : x6_1 > 0
                ·rw [if_pos c30] at H
                 have c30b0 : decide (0 < x6_1) = true := decide_eq_true c30
                 clear c30
                 by_cases c31 : x8_2 < (x7_2.length : Int)
                 ·rw [if_pos c31] at H
                  have c31b0 : decide (x8_2 < (x7_2.length : Int)) = true := decide_eq_true c31
                  clear c31
                  obtain ⟨y503, hy503⟩ : ∃ y_ : List Bool, y_ = (x7_2.set (x8_2 : Int).toNat true) := ⟨_, rfl⟩
                  replace H : (spec_FlowDoms.l1 k2 x3_1 x4_1 t495 x6_1 y503 (wrap64 (x8_2 + 1)) l0_0) = some r := by first | (rw [hy503]; with_reducible exact H) | (have H2_ := (Option.bind_some _ _).symm.trans H; rw [hy503]; with_reducible exact H2_) | (have H2_ := (Option.bind_some _ _).symm.trans H; with_reducible exact H2_) | with_reducible exact H | (rw [hy503]; exact H) | exact H
                  have Ny503 := Aside0.mk hy503
                  clear hy503
                  have H' := Aside0.mk H
                  clear H
                  have hcz33_0 : wr.cell? ⟨gb487, 0, none⟩ = some (.slice A0_0 l0_0.length c0_0) := (blk_cell BK487.out 0).trans rfl
                  have hfz33_0 := blk_frozen BK487.out 0
                  obtain ⟨Ao34, co34, eo34⟩ := Kd.R_slice HO_4.out
                  subst eo34
                  have p501 : 0 ≤ (x6_1 : Int) := of_decide_eq_true (by first | (with_reducible assumption) | assumption)
                  have q501 : x6_1 < (x4_1.length : Int) := of_decide_eq_true (by first | (with_reducible assumption) | assumption)
                  try (obtain ⟨Av_, cv_, ev_⟩ := Kd.R_slice HO_4.out; subst ev_)
                  obtain ⟨ad501, e501, hx501_0⟩ := Kd.at_bool (Kd.R_reads' HO_4.out).2.2 x6_1 p501 q501
                  (try rw [← Nbq24.out] at hx501_0)
                  (try rw [← Nbq28.out] at hx501_0)
                  cases e501
                  replace p501 := eq_true p501
                  replace q501 := eq_true q501
                  have p502 : 0 ≤ (x8_2 : Int) := of_decide_eq_true (by first | (with_reducible assumption) | assumption)
                  have q502 : x8_2 < (x4_1.length : Int) := of_decide_eq_true (by first | (with_reducible assumption) | assumption)
                  try (obtain ⟨Av_, cv_, ev_⟩ := Kd.R_slice HO_4.out; subst ev_)
                  obtain ⟨ad502, e502, hx502_0⟩ := Kd.at_bool (Kd.R_reads' HO_4.out).2.2 x8_2 p502 q502
                  (try rw [← Nbq24.out] at hx502_0)
                  (try rw [← Nbq28.out] at hx502_0)
                  obtain rfl : ad501 = ad502 := (by injection e502)
                  replace p502 := eq_true p502
                  replace q502 := eq_true q502
                  have p32 : 0 ≤ (x8_2 : Int) := of_decide_eq_true (by first | (with_reducible assumption) | assumption)
                  have q32 : (x8_2 : Int) < ((x7_2.length : Int) : Int) := of_decide_eq_true (by first | (with_reducible assumption) | assumption)
                  obtain ⟨go32, co32, eo32, gb32, gl32, cl32, HG32⟩ := Kd.R_form HO_7.out (by omega)
                  (first | cases eo32 | (injection eo32 with ea_ en_ ec_; (first | subst ea_ | (injection ea_ with ea_; subst ea_)); subst ec_; clear en_))
                  have GB32 := Aside0.mk gb32
                  have GG32 := Aside0.mk HG32
                  clear gb32 gl32 HG32
                  obtain ⟨hx32_0, hf32_0⟩ := Kd.R_celln false HO_7.out (x8_2 : Int) p32 q32
                  replace p32 := eq_true p32
                  replace q32 := eq_true q32
                  have HP35 := Kd.R_putg HO_7.out (x8_2 : Int) true
                  go_wp2_with (first | ((with_reducible refine gate_store (t := 4) (p := 59) rfl ?_); refine store_event (t := 4) (p := 59) (v := ?vo_w36) (w1 := (wr.setCell ⟨go32, (x8_2 : Int).toNat, none⟩ (.bool true))) ?hg ?ho ?hn ?hr ?_; (case ho => rfl); (case hg => rfl); (case hn => rfl); (case hr => first | (go_simp; done) | (go_simp; rfl)); intro w36 hw; have hg : wr.grownBy w36 (some go32) := (by rw [hw]; exact HP35.2); have hp_ : Kd.R Kd.bool 4 w36 w.heap.size (fun k_ => some k_ ≠ (.slice (some ad501) x4_1.length co34 : Value).ownBlock) (.slice (some ⟨go32, 0, none⟩) x7_2.length co32) y503 := (by rw [hw, Ny503.out]; exact HP35.1); clear HP35; have n0_ := Aside0.mk (Kd.S_after (v := (.slice (some ⟨go32, 0, none⟩) x7_2.length co32)) (v1 := (.slice (some ⟨go32, 0, none⟩) x7_2.length co32)) (ok := (fun k_ => some k_ ≠ (.slice (some ad501) x4_1.length co34 : Value).ownBlock)) (by (with_reducible repeat (first | apply Kd.S_alloc | apply Kd.S_drewN | apply Kd.S_drew)); exact HO_3.out) hg (.inl rfl)); have n1_ := Aside0.mk (Kd.R_after (v := (.slice (some ⟨go32, 0, none⟩) x7_2.length co32)) (v1 := (.slice (some ⟨go32, 0, none⟩) x7_2.length co32)) (ok := (fun _ => True)) (by (with_reducible repeat (first | apply Kd.R_alloc | apply Kd.R_drewN | apply Kd.R_drew)); exact Kd.R_mono HO_4.out (fun _ hk => ⟨trivial, hk⟩)) hg (.inl rfl)); have n2_ := Aside0.mk (Kd.S_over' (v := (.slice (some ⟨go32, 0, none⟩) x7_2.length co32)) (by (with_reducible repeat (first | apply Kd.S_alloc | apply Kd.S_drewN | apply Kd.S_drew)); exact HO_5.out) (Kd.R_typed HO_7.out) (by decide) hg); have n3_ := Aside0.mk (hp_); have n4_ := Aside0.mk (blk_grown (g := gb487) (o := .cells #[.slice A0_0 l0_0.length c0_0] 29 (0, 0)) (by (with_reducible repeat (first | refine blk_drewN ?_ _ | refine blk_drew ?_ | refine blk_alloc ?_ _)); exact BK487.out) hg (Kd.R_ne HO_7.out BK487.out (by decide))); have n5_ := Aside0.mk ((by rw [hw]; exact below_set (HB.out) GB32.out : Below w.heap.size w w36)); clear HO_3; clear HO_4; clear HO_5; clear HO_7; clear BK487; clear HB; have HO_3 := n0_; have HO_4 := n1_; have HO_5 := n2_; have HO_7 := n3_; have BK487 := n4_; have HB := n5_; clear n0_ n1_ n2_ n3_ n4_ n5_; clear hg hw hp_))
                  go_roundg k2
                  case measure => have := HK1.out; have := HK2.out; omega
                  case rel => exact ⟨(y503), (wrap64 (x8_2 + 1)), (by first | rfl | (simp; done) | (simp [*]; done)), H', ⟨by have := HK1.out; have := HK2.out; omega⟩, ⟨by (with_reducible repeat (first | apply Kd.S_alloc | apply Kd.S_drewN | apply Kd.S_drew)); exact HO_3.out⟩, ⟨by (with_reducible repeat (first | apply Kd.R_alloc | apply Kd.R_drewN | apply Kd.R_drew)); exact Kd.R_mono HO_4.out (fun _ hk => hk.2)⟩, ⟨by (with_reducible repeat (first | apply Kd.S_alloc | apply Kd.S_drewN | apply Kd.S_drew)); exact HO_5.out⟩, ⟨by (with_reducible repeat (first | apply Kd.R_alloc | apply Kd.R_drewN | apply Kd.R_drew)); exact HO_7.out⟩, ⟨by (with_reducible repeat (first | refine blk_drewN ?_ _ | refine blk_drew ?_ | refine blk_alloc ?_ _)); exact BK487.out⟩, ⟨by repeat (first | (with_reducible first | exact HB.out | apply below_alloc | apply pw_below_drewN | apply below_drew1 | refine below_set ?_ GE487.out) | exact HB.out)⟩⟩
                 ·rw [if_neg c31] at H
                  exact absurd H (by simp)
                ·rw [if_neg c30] at H
                 have c30b0 : decide (0 < x6_1) = false := decide_eq_false c30
                 clear c30
                 by_cases c37 : x8_2 < (x7_2.length : Int)
                 ·rw [if_pos c37] at H
                  have c37b0 : decide (x8_2 < (x7_2.length : Int)) = true := decide_eq_true c37
                  clear c37
                  obtain ⟨y504, hy504⟩ : ∃ y_ : List Bool, y_ = (x7_2.set (x8_2 : Int).toNat (x8_2 == 0)) := ⟨_, rfl⟩
                  replace H : (spec_FlowDoms.l1 k2 x3_1 x4_1 t495 x6_1 y504 (wrap64 (x8_2 + 1)) l0_0) = some r := by first | (rw [hy504]; with_reducible exact H) | (have H2_ := (Option.bind_some _ _).symm.trans H; rw [hy504]; with_reducible exact H2_) | (have H2_ := (Option.bind_some _ _).symm.trans H; with_reducible exact H2_) | with_reducible exact H | (rw [hy504]; exact H) | exact H
                  have Ny504 := Aside0.mk hy504
                  clear hy504
                  have H' := Aside0.mk H
                  clear H
                  have hcz39_0 : wr.cell? ⟨gb487, 0, none⟩ = some (.slice A0_0 l0_0.length c0_0) := (blk_cell BK487.out 0).trans rfl
                  have hfz39_0 := blk_frozen BK487.out 0
                  obtain ⟨Ao40, co40, eo40⟩ := Kd.R_slice HO_4.out
                  subst eo40
                  have p501 : 0 ≤ (x6_1 : Int) := of_decide_eq_true (by first | (with_reducible assumption) | assumption)
                  have q501 : x6_1 < (x4_1.length : Int) := of_decide_eq_true (by first | (with_reducible assumption) | assumption)
                  try (obtain ⟨Av_, cv_, ev_⟩ := Kd.R_slice HO_4.out; subst ev_)
                  obtain ⟨ad501, e501, hx501_0⟩ := Kd.at_bool (Kd.R_reads' HO_4.out).2.2 x6_1 p501 q501
                  (try rw [← Nbq24.out] at hx501_0)
                  (try rw [← Nbq28.out] at hx501_0)
                  cases e501
                  replace p501 := eq_true p501
                  replace q501 := eq_true q501
                  have p502 : 0 ≤ (x8_2 : Int) := of_decide_eq_true (by first | (with_reducible assumption) | assumption)
                  have q502 : x8_2 < (x4_1.length : Int) := of_decide_eq_true (by first | (with_reducible assumption) | assumption)
                  try (obtain ⟨Av_, cv_, ev_⟩ := Kd.R_slice HO_4.out; subst ev_)
                  obtain ⟨ad502, e502, hx502_0⟩ := Kd.at_bool (Kd.R_reads' HO_4.out).2.2 x8_2 p502 q502
                  (try rw [← Nbq24.out] at hx502_0)
                  (try rw [← Nbq28.out] at hx502_0)
                  obtain rfl : ad501 = ad502 := (by injection e502)
                  replace p502 := eq_true p502
                  replace q502 := eq_true q502
                  have p38 : 0 ≤ (x8_2 : Int) := of_decide_eq_true (by first | (with_reducible assumption) | assumption)
                  have q38 : (x8_2 : Int) < ((x7_2.length : Int) : Int) := of_decide_eq_true (by first | (with_reducible assumption) | assumption)
                  obtain ⟨go38, co38, eo38, gb38, gl38, cl38, HG38⟩ := Kd.R_form HO_7.out (by omega)
                  (first | cases eo38 | (injection eo38 with ea_ en_ ec_; (first | subst ea_ | (injection ea_ with ea_; subst ea_)); subst ec_; clear en_))
                  have GB38 := Aside0.mk gb38
                  have GG38 := Aside0.mk HG38
                  clear gb38 gl38 HG38
                  obtain ⟨hx38_0, hf38_0⟩ := Kd.R_celln false HO_7.out (x8_2 : Int) p38 q38
                  replace p38 := eq_true p38
                  replace q38 := eq_true q38
                  have HP41 := Kd.R_putg HO_7.out (x8_2 : Int) (x8_2 == 0)
                  go_wp2_with (first | ((with_reducible refine gate_store (t := 4) (p := 59) rfl ?_); refine store_event (t := 4) (p := 59) (v := ?vo_w42) (w1 := (wr.setCell ⟨go38, (x8_2 : Int).toNat, none⟩ (.bool (x8_2 == 0)))) ?hg ?ho ?hn ?hr ?_; (case ho => rfl); (case hg => rfl); (case hn => rfl); (case hr => first | (go_simp; done) | (go_simp; rfl)); intro w42 hw; have hg : wr.grownBy w42 (some go38) := (by rw [hw]; exact HP41.2); have hp_ : Kd.R Kd.bool 4 w42 w.heap.size (fun k_ => some k_ ≠ (.slice (some ad501) x4_1.length co40 : Value).ownBlock) (.slice (some ⟨go38, 0, none⟩) x7_2.length co38) y504 := (by rw [hw, Ny504.out]; exact HP41.1); clear HP41; have n0_ := Aside0.mk (Kd.S_after (v := (.slice (some ⟨go38, 0, none⟩) x7_2.length co38)) (v1 := (.slice (some ⟨go38, 0, none⟩) x7_2.length co38)) (ok := (fun k_ => some k_ ≠ (.slice (some ad501) x4_1.length co40 : Value).ownBlock)) (by (with_reducible repeat (first | apply Kd.S_alloc | apply Kd.S_drewN | apply Kd.S_drew)); exact HO_3.out) hg (.inl rfl)); have n1_ := Aside0.mk (Kd.R_after (v := (.slice (some ⟨go38, 0, none⟩) x7_2.length co38)) (v1 := (.slice (some ⟨go38, 0, none⟩) x7_2.length co38)) (ok := (fun _ => True)) (by (with_reducible repeat (first | apply Kd.R_alloc | apply Kd.R_drewN | apply Kd.R_drew)); exact Kd.R_mono HO_4.out (fun _ hk => ⟨trivial, hk⟩)) hg (.inl rfl)); have n2_ := Aside0.mk (Kd.S_over' (v := (.slice (some ⟨go38, 0, none⟩) x7_2.length co38)) (by (with_reducible repeat (first | apply Kd.S_alloc | apply Kd.S_drewN | apply Kd.S_drew)); exact HO_5.out) (Kd.R_typed HO_7.out) (by decide) hg); have n3_ := Aside0.mk (hp_); have n4_ := Aside0.mk (blk_grown (g := gb487) (o := .cells #[.slice A0_0 l0_0.length c0_0] 29 (0, 0)) (by (with_reducible repeat (first | refine blk_drewN ?_ _ | refine blk_drew ?_ | refine blk_alloc ?_ _)); exact BK487.out) hg (Kd.R_ne HO_7.out BK487.out (by decide))); have n5_ := Aside0.mk ((by rw [hw]; exact below_set (HB.out) GB38.out : Below w.heap.size w w42)); clear HO_3; clear HO_4; clear HO_5; clear HO_7; clear BK487; clear HB; have HO_3 := n0_; have HO_4 := n1_; have HO_5 := n2_; have HO_7 := n3_; have BK487 := n4_; have HB := n5_; clear n0_ n1_ n2_ n3_ n4_ n5_; clear hg hw hp_))
                  go_roundg k2
                  case measure => have := HK1.out; have := HK2.out; omega
                  case rel => exact ⟨(y504), (wrap64 (x8_2 + 1)), (by first | rfl | (simp; done) | (simp [*]; done)), H', ⟨by have := HK1.out; have := HK2.out; omega⟩, ⟨by (with_reducible repeat (first | apply Kd.S_alloc | apply Kd.S_drewN | apply Kd.S_drew)); exact HO_3.out⟩, ⟨by (with_reducible repeat (first | apply Kd.R_alloc | apply Kd.R_drewN | apply Kd.R_drew)); exact Kd.R_mono HO_4.out (fun _ hk => hk.2)⟩, ⟨by (with_reducible repeat (first | apply Kd.S_alloc | apply Kd.S_drewN | apply Kd.S_drew)); exact HO_5.out⟩, ⟨by (with_reducible repeat (first | apply Kd.R_alloc | apply Kd.R_drewN | apply Kd.R_drew)); exact HO_7.out⟩, ⟨by (with_reducible repeat (first | refine blk_drewN ?_ _ | refine blk_drew ?_ | refine blk_alloc ?_ _)); exact BK487.out⟩, ⟨by repeat (first | (with_reducible first | exact HB.out | apply below_alloc | apply pw_below_drewN | apply below_drew1 | refine below_set ?_ GE487.out) | exact HB.out)⟩⟩
                 ·rw [if_neg c37] at H
                  exact absurd H (by simp)
               ·replace c29 := Bool.eq_false_iff.mpr c29
                subst c29
                have H1 : (if x8_2 < (x7_2.length : Int) then (spec_FlowDoms.l1 k2 x3_1 x4_1 t495 x6_1 (x7_2.set (x8_2 : Int).toNat false) (wrap64 (x8_2 + 1)) l0_0) else (none)) = some r := by rw [if_neg (show ¬ (false = true) by decide)] at H; exact H
                clear H
                have H := H1
                clear H1
                by_cases c43 : x8_2 < (x7_2.length : Int)
                ·rw [if_pos c43] at H
                 have c43b0 : decide (x8_2 < (x7_2.length : Int)) = true := decide_eq_true c43
                 clear c43
                 obtain ⟨y505, hy505⟩ : ∃ y_ : List Bool, y_ = (x7_2.set (x8_2 : Int).toNat false) := ⟨_, rfl⟩
                 replace H : (spec_FlowDoms.l1 k2 x3_1 x4_1 t495 x6_1 y505 (wrap64 (x8_2 + 1)) l0_0) = some r := by first | (rw [hy505]; with_reducible exact H) | (have H2_ := (Option.bind_some _ _).symm.trans H; rw [hy505]; with_reducible exact H2_) | (have H2_ := (Option.bind_some _ _).symm.trans H; with_reducible exact H2_) | with_reducible exact H | (rw [hy505]; exact H) | exact H
                 have Ny505 := Aside0.mk hy505
                 clear hy505
                 have H' := Aside0.mk H
                 clear H
                 have hcz45_0 : wr.cell? ⟨gb487, 0, none⟩ = some (.slice A0_0 l0_0.length c0_0) := (blk_cell BK487.out 0).trans rfl
                 have hfz45_0 := blk_frozen BK487.out 0
                 obtain ⟨Ao46, co46, eo46⟩ := Kd.R_slice HO_4.out
                 subst eo46
                 have p501 : 0 ≤ (x6_1 : Int) := of_decide_eq_true (by first | (with_reducible assumption) | assumption)
                 have q501 : x6_1 < (x4_1.length : Int) := of_decide_eq_true (by first | (with_reducible assumption) | assumption)
                 try (obtain ⟨Av_, cv_, ev_⟩ := Kd.R_slice HO_4.out; subst ev_)
                 obtain ⟨ad501, e501, hx501_0⟩ := Kd.at_bool (Kd.R_reads' HO_4.out).2.2 x6_1 p501 q501
                 (try rw [← Nbq24.out] at hx501_0)
                 (try rw [← Nbq28.out] at hx501_0)
                 cases e501
                 replace p501 := eq_true p501
                 replace q501 := eq_true q501
                 have p502 : 0 ≤ (x8_2 : Int) := of_decide_eq_true (by first | (with_reducible assumption) | assumption)
                 have q502 : x8_2 < (x4_1.length : Int) := of_decide_eq_true (by first | (with_reducible assumption) | assumption)
                 try (obtain ⟨Av_, cv_, ev_⟩ := Kd.R_slice HO_4.out; subst ev_)
                 obtain ⟨ad502, e502, hx502_0⟩ := Kd.at_bool (Kd.R_reads' HO_4.out).2.2 x8_2 p502 q502
                 (try rw [← Nbq24.out] at hx502_0)
                 (try rw [← Nbq28.out] at hx502_0)
                 obtain rfl : ad501 = ad502 := (by injection e502)
                 replace p502 := eq_true p502
                 replace q502 := eq_true q502
                 have p44 : 0 ≤ (x8_2 : Int) := of_decide_eq_true (by first | (with_reducible assumption) | assumption)
                 have q44 : (x8_2 : Int) < ((x7_2.length : Int) : Int) := of_decide_eq_true (by first | (with_reducible assumption) | assumption)
                 obtain ⟨go44, co44, eo44, gb44, gl44, cl44, HG44⟩ := Kd.R_form HO_7.out (by omega)
                 (first | cases eo44 | (injection eo44 with ea_ en_ ec_; (first | subst ea_ | (injection ea_ with ea_; subst ea_)); subst ec_; clear en_))
                 have GB44 := Aside0.mk gb44
                 have GG44 := Aside0.mk HG44
                 clear gb44 gl44 HG44
                 obtain ⟨hx44_0, hf44_0⟩ := Kd.R_celln false HO_7.out (x8_2 : Int) p44 q44
                 replace p44 := eq_true p44
                 replace q44 := eq_true q44
                 have HP47 := Kd.R_putg HO_7.out (x8_2 : Int) false
                 go_wp2_with (first | ((with_reducible refine gate_store (t := 4) (p := 59) rfl ?_); refine store_event (t := 4) (p := 59) (v := ?vo_w48) (w1 := (wr.setCell ⟨go44, (x8_2 : Int).toNat, none⟩ (.bool false))) ?hg ?ho ?hn ?hr ?_; (case ho => rfl); (case hg => rfl); (case hn => rfl); (case hr => first | (go_simp; done) | (go_simp; rfl)); intro w48 hw; have hg : wr.grownBy w48 (some go44) := (by rw [hw]; exact HP47.2); have hp_ : Kd.R Kd.bool 4 w48 w.heap.size (fun k_ => some k_ ≠ (.slice (some ad501) x4_1.length co46 : Value).ownBlock) (.slice (some ⟨go44, 0, none⟩) x7_2.length co44) y505 := (by rw [hw, Ny505.out]; exact HP47.1); clear HP47; have n0_ := Aside0.mk (Kd.S_after (v := (.slice (some ⟨go44, 0, none⟩) x7_2.length co44)) (v1 := (.slice (some ⟨go44, 0, none⟩) x7_2.length co44)) (ok := (fun k_ => some k_ ≠ (.slice (some ad501) x4_1.length co46 : Value).ownBlock)) (by (with_reducible repeat (first | apply Kd.S_alloc | apply Kd.S_drewN | apply Kd.S_drew)); exact HO_3.out) hg (.inl rfl)); have n1_ := Aside0.mk (Kd.R_after (v := (.slice (some ⟨go44, 0, none⟩) x7_2.length co44)) (v1 := (.slice (some ⟨go44, 0, none⟩) x7_2.length co44)) (ok := (fun _ => True)) (by (with_reducible repeat (first | apply Kd.R_alloc | apply Kd.R_drewN | apply Kd.R_drew)); exact Kd.R_mono HO_4.out (fun _ hk => ⟨trivial, hk⟩)) hg (.inl rfl)); have n2_ := Aside0.mk (Kd.S_over' (v := (.slice (some ⟨go44, 0, none⟩) x7_2.length co44)) (by (with_reducible repeat (first | apply Kd.S_alloc | apply Kd.S_drewN | apply Kd.S_drew)); exact HO_5.out) (Kd.R_typed HO_7.out) (by decide) hg); have n3_ := Aside0.mk (hp_); have n4_ := Aside0.mk (blk_grown (g := gb487) (o := .cells #[.slice A0_0 l0_0.length c0_0] 29 (0, 0)) (by (with_reducible repeat (first | refine blk_drewN ?_ _ | refine blk_drew ?_ | refine blk_alloc ?_ _)); exact BK487.out) hg (Kd.R_ne HO_7.out BK487.out (by decide))); have n5_ := Aside0.mk ((by rw [hw]; exact below_set (HB.out) GB44.out : Below w.heap.size w w48)); clear HO_3; clear HO_4; clear HO_5; clear HO_7; clear BK487; clear HB; have HO_3 := n0_; have HO_4 := n1_; have HO_5 := n2_; have HO_7 := n3_; have BK487 := n4_; have HB := n5_; clear n0_ n1_ n2_ n3_ n4_ n5_; clear hg hw hp_))
                 go_roundg k2
                 case measure => have := HK1.out; have := HK2.out; omega
                 case rel => exact ⟨(y505), (wrap64 (x8_2 + 1)), (by first | rfl | (simp; done) | (simp [*]; done)), H', ⟨by have := HK1.out; have := HK2.out; omega⟩, ⟨by (with_reducible repeat (first | apply Kd.S_alloc | apply Kd.S_drewN | apply Kd.S_drew)); exact HO_3.out⟩, ⟨by (with_reducible repeat (first | apply Kd.R_alloc | apply Kd.R_drewN | apply Kd.R_drew)); exact Kd.R_mono HO_4.out (fun _ hk => hk.2)⟩, ⟨by (with_reducible repeat (first | apply Kd.S_alloc | apply Kd.S_drewN | apply Kd.S_drew)); exact HO_5.out⟩, ⟨by (with_reducible repeat (first | apply Kd.R_alloc | apply Kd.R_drewN | apply Kd.R_drew)); exact HO_7.out⟩, ⟨by (with_reducible repeat (first | refine blk_drewN ?_ _ | refine blk_drew ?_ | refine blk_alloc ?_ _)); exact BK487.out⟩, ⟨by repeat (first | (with_reducible first | exact HB.out | apply below_alloc | apply pw_below_drewN | apply below_drew1 | refine below_set ?_ GE487.out) | exact HB.out)⟩⟩
                ·rw [if_neg c43] at H
                 exact absurd H (by simp)
              ·rw [if_neg c27] at H
               exact absurd H (by simp)
             ·rw [if_neg c26] at H
              exact absurd H (by simp)
            ·replace c25 := Bool.eq_false_iff.mpr c25
             subst c25
             have H1 : (if 0 ≤ x8_2 then (if x8_2 < (x7_2.length : Int) then (spec_FlowDoms.l1 k2 x3_1 x4_1 t495 x6_1 (x7_2.set (x8_2 : Int).toNat false) (wrap64 (x8_2 + 1)) l0_0) else (none)) else (none)) = some r := by rw [if_neg (show ¬ (false = true) by decide)] at H; exact H
             clear H
             have H := H1
             clear H1
             by_cases c49 : 0 ≤ x8_2
             ·rw [if_pos c49] at H
              have c49b0 : decide (0 ≤ x8_2) = true := decide_eq_true c49
              clear c49
              by_cases c50 : x8_2 < (x7_2.length : Int)
              ·rw [if_pos c50] at H
               have c50b0 : decide (x8_2 < (x7_2.length : Int)) = true := decide_eq_true c50
               clear c50
               obtain ⟨y506, hy506⟩ : ∃ y_ : List Bool, y_ = (x7_2.set (x8_2 : Int).toNat false) := ⟨_, rfl⟩
               replace H : (spec_FlowDoms.l1 k2 x3_1 x4_1 t495 x6_1 y506 (wrap64 (x8_2 + 1)) l0_0) = some r := by first | (rw [hy506]; with_reducible exact H) | (have H2_ := (Option.bind_some _ _).symm.trans H; rw [hy506]; with_reducible exact H2_) | (have H2_ := (Option.bind_some _ _).symm.trans H; with_reducible exact H2_) | with_reducible exact H | (rw [hy506]; exact H) | exact H
               have Ny506 := Aside0.mk hy506
               clear hy506
               have H' := Aside0.mk H
               clear H
               have hcz52_0 : wr.cell? ⟨gb487, 0, none⟩ = some (.slice A0_0 l0_0.length c0_0) := (blk_cell BK487.out 0).trans rfl
               have hfz52_0 := blk_frozen BK487.out 0
               obtain ⟨Ao53, co53, eo53⟩ := Kd.R_slice HO_4.out
               subst eo53
               have p501 : 0 ≤ (x6_1 : Int) := of_decide_eq_true (by first | (with_reducible assumption) | assumption)
               have q501 : x6_1 < (x4_1.length : Int) := of_decide_eq_true (by first | (with_reducible assumption) | assumption)
               try (obtain ⟨Av_, cv_, ev_⟩ := Kd.R_slice HO_4.out; subst ev_)
               obtain ⟨ad501, e501, hx501_0⟩ := Kd.at_bool (Kd.R_reads' HO_4.out).2.2 x6_1 p501 q501
               (try rw [← Nbq24.out] at hx501_0)
               cases e501
               replace p501 := eq_true p501
               replace q501 := eq_true q501
               have p51 : 0 ≤ (x8_2 : Int) := of_decide_eq_true (by first | (with_reducible assumption) | assumption)
               have q51 : (x8_2 : Int) < ((x7_2.length : Int) : Int) := of_decide_eq_true (by first | (with_reducible assumption) | assumption)
               obtain ⟨go51, co51, eo51, gb51, gl51, cl51, HG51⟩ := Kd.R_form HO_7.out (by omega)
               (first | cases eo51 | (injection eo51 with ea_ en_ ec_; (first | subst ea_ | (injection ea_ with ea_; subst ea_)); subst ec_; clear en_))
               have GB51 := Aside0.mk gb51
               have GG51 := Aside0.mk HG51
               clear gb51 gl51 HG51
               obtain ⟨hx51_0, hf51_0⟩ := Kd.R_celln false HO_7.out (x8_2 : Int) p51 q51
               replace p51 := eq_true p51
               replace q51 := eq_true q51
               have HP54 := Kd.R_putg HO_7.out (x8_2 : Int) false
               go_wp2_with (first | ((with_reducible refine gate_store (t := 4) (p := 59) rfl ?_); refine store_event (t := 4) (p := 59) (v := ?vo_w55) (w1 := (wr.setCell ⟨go51, (x8_2 : Int).toNat, none⟩ (.bool false))) ?hg ?ho ?hn ?hr ?_; (case ho => rfl); (case hg => rfl); (case hn => rfl); (case hr => first | (go_simp; done) | (go_simp; rfl)); intro w55 hw; have hg : wr.grownBy w55 (some go51) := (by rw [hw]; exact HP54.2); have hp_ : Kd.R Kd.bool 4 w55 w.heap.size (fun k_ => some k_ ≠ (.slice (some ad501) x4_1.length co53 : Value).ownBlock) (.slice (some ⟨go51, 0, none⟩) x7_2.length co51) y506 := (by rw [hw, Ny506.out]; exact HP54.1); clear HP54; have n0_ := Aside0.mk (Kd.S_after (v := (.slice (some ⟨go51, 0, none⟩) x7_2.length co51)) (v1 := (.slice (some ⟨go51, 0, none⟩) x7_2.length co51)) (ok := (fun k_ => some k_ ≠ (.slice (some ad501) x4_1.length co53 : Value).ownBlock)) (by (with_reducible repeat (first | apply Kd.S_alloc | apply Kd.S_drewN | apply Kd.S_drew)); exact HO_3.out) hg (.inl rfl)); have n1_ := Aside0.mk (Kd.R_after (v := (.slice (some ⟨go51, 0, none⟩) x7_2.length co51)) (v1 := (.slice (some ⟨go51, 0, none⟩) x7_2.length co51)) (ok := (fun _ => True)) (by (with_reducible repeat (first | apply Kd.R_alloc | apply Kd.R_drewN | apply Kd.R_drew)); exact Kd.R_mono HO_4.out (fun _ hk => ⟨trivial, hk⟩)) hg (.inl rfl)); have n2_ := Aside0.mk (Kd.S_over' (v := (.slice (some ⟨go51, 0, none⟩) x7_2.length co51)) (by (with_reducible repeat (first | apply Kd.S_alloc | apply Kd.S_drewN | apply Kd.S_drew)); exact HO_5.out) (Kd.R_typed HO_7.out) (by decide) hg); have n3_ := Aside0.mk (hp_); have n4_ := Aside0.mk (blk_grown (g := gb487) (o := .cells #[.slice A0_0 l0_0.length c0_0] 29 (0, 0)) (by (with_reducible repeat (first | refine blk_drewN ?_ _ | refine blk_drew ?_ | refine blk_alloc ?_ _)); exact BK487.out) hg (Kd.R_ne HO_7.out BK487.out (by decide))); have n5_ := Aside0.mk ((by rw [hw]; exact below_set (HB.out) GB51.out : Below w.heap.size w w55)); clear HO_3; clear HO_4; clear HO_5; clear HO_7; clear BK487; clear HB; have HO_3 := n0_; have HO_4 := n1_; have HO_5 := n2_; have HO_7 := n3_; have BK487 := n4_; have HB := n5_; clear n0_ n1_ n2_ n3_ n4_ n5_; clear hg hw hp_))
               go_roundg k2
               case measure => have := HK1.out; have := HK2.out; omega
               case rel => exact ⟨(y506), (wrap64 (x8_2 + 1)), (by first | rfl | (simp; done) | (simp [*]; done)), H', ⟨by have := HK1.out; have := HK2.out; omega⟩, ⟨by (with_reducible repeat (first | apply Kd.S_alloc | apply Kd.S_drewN | apply Kd.S_drew)); exact HO_3.out⟩, ⟨by (with_reducible repeat (first | apply Kd.R_alloc | apply Kd.R_drewN | apply Kd.R_drew)); exact Kd.R_mono HO_4.out (fun _ hk => hk.2)⟩, ⟨by (with_reducible repeat (first | apply Kd.S_alloc | apply Kd.S_drewN | apply Kd.S_drew)); exact HO_5.out⟩, ⟨by (with_reducible repeat (first | apply Kd.R_alloc | apply Kd.R_drewN | apply Kd.R_drew)); exact HO_7.out⟩, ⟨by (with_reducible repeat (first | refine blk_drewN ?_ _ | refine blk_drew ?_ | refine blk_alloc ?_ _)); exact BK487.out⟩, ⟨by repeat (first | (with_reducible first | exact HB.out | apply below_alloc | apply pw_below_drewN | apply below_drew1 | refine below_set ?_ GE487.out) | exact HB.out)⟩⟩
              ·rw [if_neg c50] at H
               exact absurd H (by simp)
             ·rw [if_neg c49] at H
              exact absurd H (by simp)
           ·rw [if_neg c23] at H
            exact absurd H (by simp)
          ·rw [if_neg c22] at H
           exact absurd H (by simp)
         ·rw [if_neg c21] at H
          have c21b0 : decide (x8_2 < (l0_0.length : Int)) = false := decide_eq_false c21
          clear c21
          by_cases c56 : x3_1.length < 5864062014805
          ·rw [if_pos c56] at H
           have LMc56 := Aside0.mk c56
           clear c56
           obtain ⟨y507, hy507⟩ : ∃ y_ : List (List Bool), y_ = (x3_1 ++ [x7_2]) := ⟨_, rfl⟩
           replace H : (spec_FlowDoms.l0 k2 y507 x4_1 t495 (wrap64 (x6_1 + 1)) l0_0) = some r := by first | (rw [hy507]; with_reducible exact H) | (have H2_ := (Option.bind_some _ _).symm.trans H; rw [hy507]; with_reducible exact H2_) | (have H2_ := (Option.bind_some _ _).symm.trans H; with_reducible exact H2_) | with_reducible exact H | (rw [hy507]; exact H) | exact H
           have Ny507 := Aside0.mk hy507
           clear hy507
           have H' := Aside0.mk H
           clear H
           have hcz57_0 : wr.cell? ⟨gb487, 0, none⟩ = some (.slice A0_0 l0_0.length c0_0) := (blk_cell BK487.out 0).trans rfl
           have hfz57_0 := blk_frozen BK487.out 0
           obtain ⟨Ao59, co59, eo59⟩ := Kd.R_slice HO_7.out
           subst eo59
           go_wp2_with (first | ((with_reducible refine gate_builtin (b := .append) (xs := #[.tmp 60, .tmp 62]) rfl ?_); at_builtin; refine Kd.S_append (Kd.slice 4 Kd.bool) (w0 := w) w.heap.size rfl (.tmp 60) (.tmp 62) 56 33 (.slice none 0 0) 24 rfl Try.underlying56 info33 rfl (by decide) (by omega) u3 x3_1 x7_2 [.slice Ao59 x7_2.length co59] (fun k_ => some k_ ≠ (v493 : Value).ownBlock) (fun k_ => some k_ = (.slice Ao59 x7_2.length co59 : Value).ownBlock) rfl rfl ?aP (fun k_ hk_ => ((Kd.R_mono (ok' := fun k_ => ((fun k_ => some k_ ≠ (v493 : Value).ownBlock)) k_ ∧ some k_ ≠ (u3 : Value).ownBlock) (Kd.R_apart' (HO_7.out) (Kd.S_typed HO_3.out) (by decide)) (fun k_ hk => ⟨hk.1, hk.2⟩))).1 k_ hk_.symm) ?aF ?aO ?aB ?aS ?aL ?_; (case aP => exact Kd.M_row (Kd.R_mono (Kd.R_tight rfl (Kd.R_mono (ok' := fun k_ => ((fun k_ => some k_ ≠ (v493 : Value).ownBlock)) k_ ∧ some k_ ≠ (u3 : Value).ownBlock) (Kd.R_apart' (HO_7.out) (Kd.S_typed HO_3.out) (by decide)) (fun k_ hk => ⟨hk.1, hk.2⟩))) (fun _ h_ => h_))); (case aB => exact (by repeat (first | (with_reducible first | exact HB.out | apply below_alloc | apply pw_below_drewN | apply below_drew1 | refine below_set ?_ GE487.out) | exact HB.out))); (case aF => exact (fun k_ hk => Kd.fresh' (Kd.R_lt (by (with_reducible repeat (first | apply Kd.R_alloc | apply Kd.R_drewN | apply Kd.R_drew)); exact HO_4.out)) k_ hk)); (case aO => exact (by (with_reducible repeat (first | apply Kd.S_alloc | apply Kd.S_drewN | apply Kd.S_drew)); exact Kd.S_mono HO_3.out (fun k_ hk => ⟨hk.1, fun e_ => hk.2 e_⟩))); (case aS => exact (below_size (by repeat (first | (with_reducible first | exact HB.out | apply below_alloc | apply pw_below_drewN | apply below_drew1 | refine below_set ?_ GE487.out) | exact HB.out)))); (case aL => have := LMc56.out; omega); intro v508 w58 ho hb hg hat; rw [← Ny507.out] at ho; have n0_ := Aside0.mk (Kd.R_over' (by (with_reducible repeat (first | apply Kd.R_alloc | apply Kd.R_drewN | apply Kd.R_drew)); exact HO_4.out) (Kd.S_typed (by (with_reducible repeat (first | apply Kd.S_alloc | apply Kd.S_drewN | apply Kd.S_drew)); exact HO_3.out)) (by decide) hg); have n1_ := Aside0.mk (Kd.S_over' (by (with_reducible repeat (first | apply Kd.S_alloc | apply Kd.S_drewN | apply Kd.S_drew)); exact HO_5.out) (Kd.S_typed (by (with_reducible repeat (first | apply Kd.S_alloc | apply Kd.S_drewN | apply Kd.S_drew)); exact HO_3.out)) (by decide) hg); have n2_ := Aside0.mk (blk_grown (g := gb487) (o := .cells #[.slice A0_0 l0_0.length c0_0] 29 (0, 0)) (by (with_reducible repeat (first | refine blk_drewN ?_ _ | refine blk_drew ?_ | refine blk_alloc ?_ _)); exact BK487.out) hg (Kd.S_ne HO_3.out BK487.out (by decide))); have n3_ := Aside0.mk (hb); have n4_ := Aside0.mk (ho); clear HO_4; clear HO_5; clear BK487; clear HB; clear HO_3; clear HO_7; have HO_4 := n0_; have HO_5 := n1_; have BK487 := n2_; have HB := n3_; have HO509 := n4_; clear n0_ n1_ n2_ n3_ n4_; clear ho hb hg hat))
           go_roundg k2
           case measure => have := HK1.out; have := HK2.out; omega
           case rel => exact ⟨(y507), (x4_1), (wrap64 (x6_1 + 1)), (by first | rfl | (simp; done) | (simp [*]; done)), H', ⟨by have := HK1.out; have := HK2.out; omega⟩, ⟨by (with_reducible repeat (first | apply Kd.S_alloc | apply Kd.S_drewN | apply Kd.S_drew)); exact HO509.out⟩, ⟨by (with_reducible repeat (first | apply Kd.R_alloc | apply Kd.R_drewN | apply Kd.R_drew)); exact Kd.R_mono HO_4.out (fun _ hk => trivial)⟩, ⟨by (with_reducible repeat (first | apply Kd.S_alloc | apply Kd.S_drewN | apply Kd.S_drew)); exact HO_5.out⟩, ⟨by (with_reducible repeat (first | refine blk_drewN ?_ _ | refine blk_drew ?_ | refine blk_alloc ?_ _)); exact BK487.out⟩, ⟨by repeat (first | (with_reducible first | exact HB.out | apply below_alloc | apply pw_below_drewN | apply below_drew1 | refine below_set ?_ GE487.out) | exact HB.out)⟩⟩
          ·rw [if_neg c56] at H
           exact absurd H (by simp)
      ·rw [if_neg c17] at H
       exact absurd H (by simp)
     ·rw [if_neg c16] at H
      exact absurd H (by simp)
    ·rw [if_neg c15] at H
     have c15b0 : decide (x6_1 < (l0_0.length : Int)) = false := decide_eq_false c15
     clear c15
     have H' := Aside0.mk H
     clear H
     have hcz60_0 : wr.cell? ⟨gb487, 0, none⟩ = some (.slice A0_0 l0_0.length c0_0) := (blk_cell BK487.out 0).trans rfl
     have hfz60_0 := blk_frozen BK487.out 0
     go_wp2
     go_loopg [9] k1 (fun kq v9 w' => ∃ (x3_2 : List (List Bool)) (x9_2 : Bool), v9 = .bool x9_2 ∧ Aside0 (spec_FlowDoms.l2 kq x3_2 t495 x9_2 l0_0 = some r) ∧ Aside0 (kq ≤ k1) ∧ Aside0 (Kd.S (Kd.slice 4 Kd.bool) 33 w' w.heap.size (fun _ => True) u3 x3_2) ∧ Aside0 (Kd.S (Kd.slice 3 (Kd.int .i64)) 60 w' w.heap.size (fun _ => True) v496 t495) ∧ Aside0 (w'.heap[gb487]? = some (.cells #[(.slice A0_0 l0_0.length c0_0)] 29 (0, 0))) ∧ Aside0 (Below w.heap.size w w'))
     case atStart => exact ⟨(x3_1), (true), (by first | rfl | (simp; done) | (simp [*]; done)), H', ⟨Nat.le_refl _⟩, ⟨by (with_reducible repeat (first | apply Kd.S_alloc | apply Kd.S_drewN | apply Kd.S_drew)); exact Kd.S_mono HO_3.out (fun _ hk => trivial)⟩, ⟨by (with_reducible repeat (first | apply Kd.S_alloc | apply Kd.S_drewN | apply Kd.S_drew)); exact HO_5.out⟩, ⟨by (with_reducible repeat (first | refine blk_drewN ?_ _ | refine blk_drew ?_ | refine blk_alloc ?_ _)); exact BK487.out⟩, ⟨by repeat (first | (with_reducible first | exact HB.out | apply below_alloc | apply pw_below_drewN | apply below_drew1 | refine below_set ?_ GE487.out) | exact HB.out)⟩⟩
     case round =>
      clear H'
      (try clear c3); (try clear c15); (try clear c15b0); (try clear hcz11_0); (try clear hcz13_0); (try clear hcz60_0); (try clear hcz9_0); (try clear hfz11_0); (try clear hfz13_0); (try clear hfz60_0); (try clear hfz9_0)
      obtain ⟨x3_2, x9_2, rfl, HA, HK2, HO_3, HO_5, BK487, HB⟩ := hrel
      cases gk with
      | zero => exact absurd HA.out (by simp [spec_FlowDoms.l2])
      | succ k2 =>
       have H := HA.out
       clear HA
       simp only [spec_FlowDoms.l2] at H
       by_cases c61 : x9_2 = true
       ·subst c61
        have H1 : (spec_FlowDoms.l3 k2 x3_2 t495 false 1 l0_0) = some r := by rw [if_pos rfl] at H; exact H
        clear H
        have H := H1
        clear H1
        have H' := Aside0.mk H
        clear H
        go_wp2
        go_loopg [9, 10] k2 (fun kq v9 v10 w' => ∃ (x3_3 : List (List Bool)) (x9_3 : Bool) (x10_3 : Int), v9 = .bool x9_3 ∧ v10 = .int .i64 x10_3 ∧ Aside0 (spec_FlowDoms.l3 kq x3_3 t495 x9_3 x10_3 l0_0 = some r) ∧ Aside0 (kq ≤ k2) ∧ Aside0 (Kd.S (Kd.slice 4 Kd.bool) 33 w' w.heap.size (fun _ => True) u3 x3_3) ∧ Aside0 (Kd.S (Kd.slice 3 (Kd.int .i64)) 60 w' w.heap.size (fun _ => True) v496 t495) ∧ Aside0 (w'.heap[gb487]? = some (.cells #[(.slice A0_0 l0_0.length c0_0)] 29 (0, 0))) ∧ Aside0 (Below w.heap.size w w'))
        case atStart => exact ⟨(x3_2), (false), (1), (by first | rfl | (simp; done) | (simp [*]; done)), (by first | rfl | (simp; done) | (simp [*]; done)), H', ⟨Nat.le_refl _⟩, ⟨by (with_reducible repeat (first | apply Kd.S_alloc | apply Kd.S_drewN | apply Kd.S_drew)); exact HO_3.out⟩, ⟨by (with_reducible repeat (first | apply Kd.S_alloc | apply Kd.S_drewN | apply Kd.S_drew)); exact HO_5.out⟩, ⟨by (with_reducible repeat (first | refine blk_drewN ?_ _ | refine blk_drew ?_ | refine blk_alloc ?_ _)); exact BK487.out⟩, ⟨by repeat (first | (with_reducible first | exact HB.out | apply below_alloc | apply pw_below_drewN | apply below_drew1 | refine below_set ?_ GE487.out) | exact HB.out)⟩⟩
        case round =>
         clear H'
         (try clear c3); (try clear c15); (try clear c15b0); (try clear c61); (try clear hcz11_0); (try clear hcz13_0); (try clear hcz60_0); (try clear hcz9_0); (try clear hfz11_0); (try clear hfz13_0); (try clear hfz60_0); (try clear hfz9_0)
         obtain ⟨x3_3, x9_3, x10_3, rfl, rfl, HA, HK3, HO_3, HO_5, BK487, HB⟩ := hrel
         cases gk with
         | zero => exact absurd HA.out (by simp [spec_FlowDoms.l3])
         | succ k3 =>
          have H := HA.out
          clear HA
          simp only [spec_FlowDoms.l3] at H
          by_cases c62 : x10_3 < (l0_0.length : Int)
          ·rw [if_pos c62] at H
           have c62b0 : decide (x10_3 < (l0_0.length : Int)) = true := decide_eq_true c62
           clear c62
           have H' := Aside0.mk H
           clear H
           have hcz63_0 : wr.cell? ⟨gb487, 0, none⟩ = some (.slice A0_0 l0_0.length c0_0) := (blk_cell BK487.out 0).trans rfl
           have hfz63_0 := blk_frozen BK487.out 0
           go_wp2
           go_loopg [9, 11] k3 (fun kq v9 v11 w' => ∃ (x3_4 : List (List Bool)) (x9_4 : Bool) (x11_4 : Int), v9 = .bool x9_4 ∧ v11 = .int .i64 x11_4 ∧ Aside0 (spec_FlowDoms.l4 kq x3_4 t495 x9_4 x10_3 x11_4 l0_0 = some r) ∧ Aside0 (kq ≤ k3) ∧ Aside0 (Kd.S (Kd.slice 4 Kd.bool) 33 w' w.heap.size (fun _ => True) u3 x3_4) ∧ Aside0 (Kd.S (Kd.slice 3 (Kd.int .i64)) 60 w' w.heap.size (fun _ => True) v496 t495) ∧ Aside0 (w'.heap[gb487]? = some (.cells #[(.slice A0_0 l0_0.length c0_0)] 29 (0, 0))) ∧ Aside0 (Below w.heap.size w w'))
           case atStart => exact ⟨(x3_3), (x9_3), (0), (by first | rfl | (simp; done) | (simp [*]; done)), (by first | rfl | (simp; done) | (simp [*]; done)), H', ⟨Nat.le_refl _⟩, ⟨by (with_reducible repeat (first | apply Kd.S_alloc | apply Kd.S_drewN | apply Kd.S_drew)); exact HO_3.out⟩, ⟨by (with_reducible repeat (first | apply Kd.S_alloc | apply Kd.S_drewN | apply Kd.S_drew)); exact HO_5.out⟩, ⟨by (with_reducible repeat (first | refine blk_drewN ?_ _ | refine blk_drew ?_ | refine blk_alloc ?_ _)); exact BK487.out⟩, ⟨by repeat (first | (with_reducible first | exact HB.out | apply below_alloc | apply pw_below_drewN | apply below_drew1 | refine below_set ?_ GE487.out) | exact HB.out)⟩⟩
           case round =>
            clear H'
            (try clear c3); (try clear c15); (try clear c15b0); (try clear c61); (try clear c62); (try clear c62b0); (try clear hcz11_0); (try clear hcz13_0); (try clear hcz60_0); (try clear hcz63_0); (try clear hcz9_0); (try clear hfz11_0); (try clear hfz13_0); (try clear hfz60_0); (try clear hfz63_0); (try clear hfz9_0)
            obtain ⟨x3_4, x9_4, x11_4, rfl, rfl, HA, HK4, HO_3, HO_5, BK487, HB⟩ := hrel
            cases gk with
            | zero => exact absurd HA.out (by simp [spec_FlowDoms.l4])
            | succ k4 =>
             have H := HA.out
             clear HA
             simp only [spec_FlowDoms.l4] at H
             by_cases c64 : x11_4 < (l0_0.length : Int)
             ·rw [if_pos c64] at H
              have c64b0 : decide (x11_4 < (l0_0.length : Int)) = true := decide_eq_true c64
              clear c64
              by_cases c65 : 0 ≤ x10_3
              ·rw [if_pos c65] at H
               have c65b0 : decide (0 ≤ x10_3) = true := decide_eq_true c65
               clear c65
               by_cases c66 : x10_3 < (x3_4.length : Int)
               ·rw [if_pos c66] at H
                have c66b0 : decide (x10_3 < (x3_4.length : Int)) = true := decide_eq_true c66
                clear c66
                by_cases c67 : 0 ≤ x11_4
                ·rw [if_pos c67] at H
                 have c67b0 : decide (0 ≤ x11_4) = true := decide_eq_true c67
                 clear c67
                 by_cases c68 : x11_4 < ((rd_L9 x3_4 x10_3).length : Int)
                 ·rw [if_pos c68] at H
                  have c68b0 : decide (x11_4 < ((rd_L9 x3_4 x10_3).length : Int)) = true := decide_eq_true c68
                  clear c68
                  obtain ⟨bq69, hbq69⟩ : ∃ b_ : Bool, b_ = (rdOf false (rd_L9 x3_4 x10_3) x11_4) := ⟨_, rfl⟩
                  replace H : (if bq69 = true then (if x11_4 = x10_3 then (spec_FlowDoms.l4 k4 x3_4 t495 x9_4 x10_3 (wrap64 (x11_4 + 1)) l0_0) else (if x10_3 < (t495.length : Int) then ((spec_l2All.f k4 x3_4 (rd_L2 t495 x10_3) x11_4).bind fun t513 => (if t513 = true then (spec_FlowDoms.l4 k4 x3_4 t495 x9_4 x10_3 (wrap64 (x11_4 + 1)) l0_0) else (spec_FlowDoms.l4 k4 (x3_4.set (x10_3 : Int).toNat ((rd_L9 x3_4 x10_3).set (x11_4 : Int).toNat false)) t495 true x10_3 (wrap64 (x11_4 + 1)) l0_0))) else (none))) else (spec_FlowDoms.l4 k4 x3_4 t495 x9_4 x10_3 (wrap64 (x11_4 + 1)) l0_0)) = some r := by rw [← hbq69] at H; exact H
                  have Nbq69 := Aside0.mk hbq69
                  clear hbq69
                  by_cases c70 : bq69 = true
                  ·subst c70
                   have H1 : (if x11_4 = x10_3 then (spec_FlowDoms.l4 k4 x3_4 t495 x9_4 x10_3 (wrap64 (x11_4 + 1)) l0_0) else (if x10_3 < (t495.length : Int) then ((spec_l2All.f k4 x3_4 (rd_L2 t495 x10_3) x11_4).bind fun t513 => (if t513 = true then (spec_FlowDoms.l4 k4 x3_4 t495 x9_4 x10_3 (wrap64 (x11_4 + 1)) l0_0) else (spec_FlowDoms.l4 k4 (x3_4.set (x10_3 : Int).toNat ((rd_L9 x3_4 x10_3).set (x11_4 : Int).toNat false)) t495 true x10_3 (wrap64 (x11_4 + 1)) l0_0))) else (none))) = some r := by rw [if_pos rfl] at H; exact H
                   clear H
                   have H := H1
                   clear H1
                   by_cases c71 : x11_4 = x10_3
                   ·rw [if_pos c71] at H
                    have c71b0 : (x11_4 == x10_3) = true := beq_iff_eq.mpr c71
                    have c71b1 : (x11_4 != x10_3) = false := bne_eq_false_iff_eq.mpr c71
                    clear c71
                    have H' := Aside0.mk H
                    clear H
                    have hcz72_0 : wr.cell? ⟨gb487, 0, none⟩ = some (.slice A0_0 l0_0.length c0_0) := (blk_cell BK487.out 0).trans rfl
                    have hfz72_0 := blk_frozen BK487.out 0
                    obtain ⟨Ao73, co73, eo73⟩ := Kd.S_slice HO_3.out
                    subst eo73
                    have p510 : 0 ≤ (x10_3 : Int) := of_decide_eq_true (by first | (with_reducible assumption) | assumption)
                    have q510 : x10_3 < (x3_4.length : Int) := of_decide_eq_true (by first | (with_reducible assumption) | assumption)
                    obtain ⟨ad510, A510_0, c510_0, e510, hx510_0, hl510_0, hi510_0⟩ := at_L9 (Kd.S_reads' HO_3.out).2.2 x10_3 p510 q510
                    cases e510
                    obtain ⟨ce510, hce510, hMe510, hcc510⟩ := Kd.S_get HO_3.out [] x10_3 p510 (by first | exact q510 | exact of_decide_eq_true (by first | (with_reducible assumption) | assumption) | (have e_ := (Kd.S_reads' HO_3.out).1; omega))
                    obtain ⟨ve510_0, rfl, ge510_0⟩ := hMe510
                    have hv510_0 := hcc510 0 _ rfl
                    rw [Nat.add_zero, show ((Kd.slice 4 Kd.bool)).sz = 1 from rfl, Nat.mul_one] at hv510_0
                    replace hv510_0 := Option.some.inj (hv510_0.symm.trans hx510_0)
                    rw [hv510_0] at ge510_0
                    have HL510_0 := Aside0.mk (show Kd.R Kd.bool 4 _ _ _ _ (rd_L9 x3_4 x10_3) from ge510_0)
                    clear hv510_0 ge510_0
                    have HX510_0 := Aside0.mk hx510_0
                    clear hcc510 hce510
                    have HR510_0 := Aside0.mk hi510_0
                    have HC510_0 := Aside0.mk hl510_0
                    clear hi510_0 hl510_0
                    replace p510 := eq_true p510
                    replace q510 := eq_true q510
                    have p511 : 0 ≤ (x11_4 : Int) := of_decide_eq_true (by first | (with_reducible assumption) | assumption)
                    have q511 : x11_4 < ((rd_L9 x3_4 x10_3).length : Int) := of_decide_eq_true (by first | (with_reducible assumption) | assumption)
                    obtain ⟨ad511, e511, hx511_0⟩ := Kd.at_bool (by repeat (first | (with_reducible exact HR510_0.out) | (with_reducible refine Kd.C_alloc ?_ _) | (with_reducible refine Kd.C_drewN ?_ _) | (with_reducible refine Kd.C_drew ?_) | exact HR510_0.out)) x11_4 p511 q511
                    (try rw [← Nbq69.out] at hx511_0)
                    cases e511
                    replace p511 := eq_true p511
                    replace q511 := eq_true q511
                    go_wp2
                    go_roundg k4
                    case measure => have := HK1.out; have := HK2.out; have := HK3.out; have := HK4.out; omega
                    case rel => exact ⟨(x3_4), (x9_4), (wrap64 (x11_4 + 1)), (by first | rfl | (simp; done) | (simp [*]; done)), (by first | rfl | (simp; done) | (simp [*]; done)), H', ⟨by have := HK1.out; have := HK2.out; have := HK3.out; have := HK4.out; omega⟩, ⟨by (with_reducible repeat (first | apply Kd.S_alloc | apply Kd.S_drewN | apply Kd.S_drew)); exact HO_3.out⟩, ⟨by (with_reducible repeat (first | apply Kd.S_alloc | apply Kd.S_drewN | apply Kd.S_drew)); exact HO_5.out⟩, ⟨by (with_reducible repeat (first | refine blk_drewN ?_ _ | refine blk_drew ?_ | refine blk_alloc ?_ _)); exact BK487.out⟩, ⟨by repeat (first | (with_reducible first | exact HB.out | apply below_alloc | apply pw_below_drewN | apply below_drew1 | refine below_set ?_ GE487.out) | exact HB.out)⟩⟩
                   ·rw [if_neg c71] at H
                    have c71b0 : (x11_4 == x10_3) = false := beq_eq_false_iff_ne.mpr c71
                    have c71b1 : (x11_4 != x10_3) = true := bne_iff_ne.mpr c71
                    by_cases c74 : x10_3 < (t495.length : Int)
                    ·rw [if_pos c74] at H
                     have c74b0 : decide (x10_3 < (t495.length : Int)) = true := decide_eq_true c74
                     clear c74
                     replace H := Option.bind_eq_some_iff.mp H
                     obtain ⟨t513, A750, H⟩ := H
                     replace H : (if t513 = true then (spec_FlowDoms.l4 k4 x3_4 t495 x9_4 x10_3 (wrap64 (x11_4 + 1)) l0_0) else (spec_FlowDoms.l4 k4 (x3_4.set (x10_3 : Int).toNat ((rd_L9 x3_4 x10_3).set (x11_4 : Int).toNat false)) t495 true x10_3 (wrap64 (x11_4 + 1)) l0_0)) = some r := H
                     have A75 := Aside0.mk A750
                     clear A750
                     by_cases c76 : t513 = true
                     ·subst c76
                      have H1 : (spec_FlowDoms.l4 k4 x3_4 t495 x9_4 x10_3 (wrap64 (x11_4 + 1)) l0_0) = some r := by rw [if_pos rfl] at H; exact H
                      clear H
                      have H := H1
                      clear H1
                      have H' := Aside0.mk H
                      clear H
                      have hcz77_0 : wr.cell? ⟨gb487, 0, none⟩ = some (.slice A0_0 l0_0.length c0_0) := (blk_cell BK487.out 0).trans rfl
                      have hfz77_0 := blk_frozen BK487.out 0
                      obtain ⟨Ao78, co78, eo78⟩ := Kd.S_slice HO_3.out
                      subst eo78
                      have p510 : 0 ≤ (x10_3 : Int) := of_decide_eq_true (by first | (with_reducible assumption) | assumption)
                      have q510 : x10_3 < (x3_4.length : Int) := of_decide_eq_true (by first | (with_reducible assumption) | assumption)
                      obtain ⟨ad510, A510_0, c510_0, e510, hx510_0, hl510_0, hi510_0⟩ := at_L9 (Kd.S_reads' HO_3.out).2.2 x10_3 p510 q510
                      cases e510
                      obtain ⟨ce510, hce510, hMe510, hcc510⟩ := Kd.S_get HO_3.out [] x10_3 p510 (by first | exact q510 | exact of_decide_eq_true (by first | (with_reducible assumption) | assumption) | (have e_ := (Kd.S_reads' HO_3.out).1; omega))
                      obtain ⟨ve510_0, rfl, ge510_0⟩ := hMe510
                      have hv510_0 := hcc510 0 _ rfl
                      rw [Nat.add_zero, show ((Kd.slice 4 Kd.bool)).sz = 1 from rfl, Nat.mul_one] at hv510_0
                      replace hv510_0 := Option.some.inj (hv510_0.symm.trans hx510_0)
                      rw [hv510_0] at ge510_0
                      have HL510_0 := Aside0.mk (show Kd.R Kd.bool 4 _ _ _ _ (rd_L9 x3_4 x10_3) from ge510_0)
                      clear hv510_0 ge510_0
                      have HX510_0 := Aside0.mk hx510_0
                      clear hcc510 hce510
                      have HR510_0 := Aside0.mk hi510_0
                      have HC510_0 := Aside0.mk hl510_0
                      clear hi510_0 hl510_0
                      replace p510 := eq_true p510
                      replace q510 := eq_true q510
                      have p511 : 0 ≤ (x11_4 : Int) := of_decide_eq_true (by first | (with_reducible assumption) | assumption)
                      have q511 : x11_4 < ((rd_L9 x3_4 x10_3).length : Int) := of_decide_eq_true (by first | (with_reducible assumption) | assumption)
                      obtain ⟨ad511, e511, hx511_0⟩ := Kd.at_bool (by repeat (first | (with_reducible exact HR510_0.out) | (with_reducible refine Kd.C_alloc ?_ _) | (with_reducible refine Kd.C_drewN ?_ _) | (with_reducible refine Kd.C_drew ?_) | exact HR510_0.out)) x11_4 p511 q511
                      (try rw [← Nbq69.out] at hx511_0)
                      cases e511
                      replace p511 := eq_true p511
                      replace q511 := eq_true q511
                      obtain ⟨Ao79, co79, eo79⟩ := Kd.S_slice HO_5.out
                      subst eo79
                      have p512 : 0 ≤ (x10_3 : Int) := of_decide_eq_true (by first | (with_reducible assumption) | assumption)
                      have q512 : x10_3 < (t495.length : Int) := of_decide_eq_true (by first | (with_reducible assumption) | assumption)
                      obtain ⟨ad512, A512_0, c512_0, e512, hx512_0, hl512_0, hi512_0⟩ := at_L2 (Kd.S_reads' HO_5.out).2.2 x10_3 p512 q512
                      cases e512
                      obtain ⟨ce512, hce512, hMe512, hcc512⟩ := Kd.S_get HO_5.out [] x10_3 p512 (by first | exact q512 | exact of_decide_eq_true (by first | (with_reducible assumption) | assumption) | (have e_ := (Kd.S_reads' HO_5.out).1; omega))
                      obtain ⟨ve512_0, rfl, ge512_0⟩ := hMe512
                      have hv512_0 := hcc512 0 _ rfl
                      rw [Nat.add_zero, show ((Kd.slice 3 (Kd.int .i64))).sz = 1 from rfl, Nat.mul_one] at hv512_0
                      replace hv512_0 := Option.some.inj (hv512_0.symm.trans hx512_0)
                      rw [hv512_0] at ge512_0
                      have HL512_0 := Aside0.mk (show Kd.R (Kd.int .i64) 3 _ _ _ _ (rd_L2 t495 x10_3) from ge512_0)
                      clear hv512_0 ge512_0
                      have HX512_0 := Aside0.mk hx512_0
                      clear hcc512 hce512
                      have HR512_0 := Aside0.mk hi512_0
                      have HC512_0 := Aside0.mk hl512_0
                      clear hi512_0 hl512_0
                      replace p512 := eq_true p512
                      replace q512 := eq_true q512
                      go_wp2_with (first | (go_at_call 84; (with_reducible refine (spec_l2All.calls k4 _ _ x3_4 _ _ (rd_L2 t495 x10_3) x11_4 true _ ?side1 ?side2 ?side3 ?side4 A75.out).mono ?_); (case side1 => repeat (first | exact (Kd.S_reads' HO_3.out).2.2 | (with_reducible refine Kd.C_alloc ?_ _) | (with_reducible refine Kd.C_drewN ?_ _) | (with_reducible refine Kd.C_drew ?_))); (case side2 => exact (Kd.S_reads' HO_3.out).2.1); (case side3 => repeat (first | exact (by repeat (first | (with_reducible exact HR512_0.out) | (with_reducible refine Kd.C_alloc ?_ _) | (with_reducible refine Kd.C_drewN ?_ _) | (with_reducible refine Kd.C_drew ?_) | exact HR512_0.out)) | (with_reducible refine Kd.C_alloc ?_ _) | (with_reducible refine Kd.C_drewN ?_ _) | (with_reducible refine Kd.C_drew ?_))); (case side4 => exact HC512_0.out); rintro e w' ⟨rfl, ⟨nd, rfl⟩⟩))
                      go_roundg k4
                      case measure => have := HK1.out; have := HK2.out; have := HK3.out; have := HK4.out; omega
                      case rel => exact ⟨(x3_4), (x9_4), (wrap64 (x11_4 + 1)), (by first | rfl | (simp; done) | (simp [*]; done)), (by first | rfl | (simp; done) | (simp [*]; done)), H', ⟨by have := HK1.out; have := HK2.out; have := HK3.out; have := HK4.out; omega⟩, ⟨by (with_reducible repeat (first | apply Kd.S_alloc | apply Kd.S_drewN | apply Kd.S_drew)); exact HO_3.out⟩, ⟨by (with_reducible repeat (first | apply Kd.S_alloc | apply Kd.S_drewN | apply Kd.S_drew)); exact HO_5.out⟩, ⟨by (with_reducible repeat (first | refine blk_drewN ?_ _ | refine blk_drew ?_ | refine blk_alloc ?_ _)); exact BK487.out⟩, ⟨by repeat (first | (with_reducible first | exact HB.out | apply below_alloc | apply pw_below_drewN | apply below_drew1 | refine below_set ?_ GE487.out) | exact HB.out)⟩⟩
                     ·replace c76 := Bool.eq_false_iff.mpr c76
                      subst c76
                      have H1 : (spec_FlowDoms.l4 k4 (x3_4.set (x10_3 : Int).toNat ((rd_L9 x3_4 x10_3).set (x11_4 : Int).toNat false)) t495 true x10_3 (wrap64 (x11_4 + 1)) l0_0) = some r := by rw [if_neg (show ¬ (false = true) by decide)] at H; exact H
                      clear H
                      have H := H1
                      clear H1
                      obtain ⟨y515, hy515⟩ : ∃ y_ : List Bool, y_ = ((rd_L9 x3_4 x10_3).set (x11_4 : Int).toNat false) := ⟨_, rfl⟩
                      replace H : (spec_FlowDoms.l4 k4 (x3_4.set (x10_3 : Int).toNat y515) t495 true x10_3 (wrap64 (x11_4 + 1)) l0_0) = some r := by first | (rw [hy515]; with_reducible exact H) | (have H2_ := (Option.bind_some _ _).symm.trans H; rw [hy515]; with_reducible exact H2_) | (have H2_ := (Option.bind_some _ _).symm.trans H; with_reducible exact H2_) | with_reducible exact H | (rw [hy515]; exact H) | exact H
                      have Ny515 := Aside0.mk hy515
                      clear hy515
                      obtain ⟨y517, hy517⟩ : ∃ y_ : List (List Bool), y_ = (x3_4.set (x10_3 : Int).toNat y515) := ⟨_, rfl⟩
                      replace H : (spec_FlowDoms.l4 k4 y517 t495 true x10_3 (wrap64 (x11_4 + 1)) l0_0) = some r := by first | (rw [hy517]; with_reducible exact H) | (have H2_ := (Option.bind_some _ _).symm.trans H; rw [hy517]; with_reducible exact H2_) | (have H2_ := (Option.bind_some _ _).symm.trans H; with_reducible exact H2_) | with_reducible exact H | (rw [hy517]; exact H) | exact H
                      have Ny517 := Aside0.mk hy517
                      clear hy517
                      have H' := Aside0.mk H
                      clear H
                      have hcz81_0 : wr.cell? ⟨gb487, 0, none⟩ = some (.slice A0_0 l0_0.length c0_0) := (blk_cell BK487.out 0).trans rfl
                      have hfz81_0 := blk_frozen BK487.out 0
                      obtain ⟨Ao82, co82, eo82⟩ := Kd.S_slice HO_3.out
                      subst eo82
                      have p510 : 0 ≤ (x10_3 : Int) := of_decide_eq_true (by first | (with_reducible assumption) | assumption)
                      have q510 : x10_3 < (x3_4.length : Int) := of_decide_eq_true (by first | (with_reducible assumption) | assumption)
                      obtain ⟨ad510, A510_0, c510_0, e510, hx510_0, hl510_0, hi510_0⟩ := at_L9 (Kd.S_reads' HO_3.out).2.2 x10_3 p510 q510
                      cases e510
                      obtain ⟨ce510, hce510, hMe510, hcc510⟩ := Kd.S_get HO_3.out [] x10_3 p510 (by first | exact q510 | exact of_decide_eq_true (by first | (with_reducible assumption) | assumption) | (have e_ := (Kd.S_reads' HO_3.out).1; omega))
                      obtain ⟨ve510_0, rfl, ge510_0⟩ := hMe510
                      have hv510_0 := hcc510 0 _ rfl
                      rw [Nat.add_zero, show ((Kd.slice 4 Kd.bool)).sz = 1 from rfl, Nat.mul_one] at hv510_0
                      replace hv510_0 := Option.some.inj (hv510_0.symm.trans hx510_0)
                      rw [hv510_0] at ge510_0
                      have HL510_0 := Aside0.mk (show Kd.R Kd.bool 4 _ _ _ _ (rd_L9 x3_4 x10_3) from ge510_0)
                      clear hv510_0 ge510_0
                      have HX510_0 := Aside0.mk hx510_0
                      clear hcc510 hce510
                      have HR510_0 := Aside0.mk hi510_0
                      have HC510_0 := Aside0.mk hl510_0
                      clear hi510_0 hl510_0
                      replace p510 := eq_true p510
                      replace q510 := eq_true q510
                      have p511 : 0 ≤ (x11_4 : Int) := of_decide_eq_true (by first | (with_reducible assumption) | assumption)
                      have q511 : x11_4 < ((rd_L9 x3_4 x10_3).length : Int) := of_decide_eq_true (by first | (with_reducible assumption) | assumption)
                      obtain ⟨ad511, e511, hx511_0⟩ := Kd.at_bool (by repeat (first | (with_reducible exact HR510_0.out) | (with_reducible refine Kd.C_alloc ?_ _) | (with_reducible refine Kd.C_drewN ?_ _) | (with_reducible refine Kd.C_drew ?_) | exact HR510_0.out)) x11_4 p511 q511
                      (try rw [← Nbq69.out] at hx511_0)
                      cases e511
                      replace p511 := eq_true p511
                      replace q511 := eq_true q511
                      obtain ⟨Ao83, co83, eo83⟩ := Kd.S_slice HO_5.out
                      subst eo83
                      have p512 : 0 ≤ (x10_3 : Int) := of_decide_eq_true (by first | (with_reducible assumption) | assumption)
                      have q512 : x10_3 < (t495.length : Int) := of_decide_eq_true (by first | (with_reducible assumption) | assumption)
                      obtain ⟨ad512, A512_0, c512_0, e512, hx512_0, hl512_0, hi512_0⟩ := at_L2 (Kd.S_reads' HO_5.out).2.2 x10_3 p512 q512
                      cases e512
                      obtain ⟨ce512, hce512, hMe512, hcc512⟩ := Kd.S_get HO_5.out [] x10_3 p512 (by first | exact q512 | exact of_decide_eq_true (by first | (with_reducible assumption) | assumption) | (have e_ := (Kd.S_reads' HO_5.out).1; omega))
                      obtain ⟨ve512_0, rfl, ge512_0⟩ := hMe512
                      have hv512_0 := hcc512 0 _ rfl
                      rw [Nat.add_zero, show ((Kd.slice 3 (Kd.int .i64))).sz = 1 from rfl, Nat.mul_one] at hv512_0
                      replace hv512_0 := Option.some.inj (hv512_0.symm.trans hx512_0)
                      rw [hv512_0] at ge512_0
                      have HL512_0 := Aside0.mk (show Kd.R (Kd.int .i64) 3 _ _ _ _ (rd_L2 t495 x10_3) from ge512_0)
                      clear hv512_0 ge512_0
                      have HX512_0 := Aside0.mk hx512_0
                      clear hcc512 hce512
                      have HR512_0 := Aside0.mk hi512_0
                      have HC512_0 := Aside0.mk hl512_0
                      clear hi512_0 hl512_0
                      replace p512 := eq_true p512
                      replace q512 := eq_true q512
                      go_wp2_with (first | (go_at_call 84; (with_reducible refine (spec_l2All.calls k4 _ _ x3_4 _ _ (rd_L2 t495 x10_3) x11_4 false _ ?side1 ?side2 ?side3 ?side4 A75.out).mono ?_); (case side1 => repeat (first | exact (Kd.S_reads' HO_3.out).2.2 | (with_reducible refine Kd.C_alloc ?_ _) | (with_reducible refine Kd.C_drewN ?_ _) | (with_reducible refine Kd.C_drew ?_))); (case side2 => exact (Kd.S_reads' HO_3.out).2.1); (case side3 => repeat (first | exact (by repeat (first | (with_reducible exact HR512_0.out) | (with_reducible refine Kd.C_alloc ?_ _) | (with_reducible refine Kd.C_drewN ?_ _) | (with_reducible refine Kd.C_drew ?_) | exact HR512_0.out)) | (with_reducible refine Kd.C_alloc ?_ _) | (with_reducible refine Kd.C_drewN ?_ _) | (with_reducible refine Kd.C_drew ?_))); (case side4 => exact HC512_0.out); rintro e w' ⟨rfl, ⟨nd, rfl⟩⟩; (try (rw [drewN_self wr]; generalize hq_ : World.drewN wr _ = wr; have n0_ : Aside0 (Kd.R Kd.bool 4 wr w.heap.size (fun k_ => some k_ ≠ (.slice (some ad510) x3_4.length co82 : Value).ownBlock) (.slice (some ad511) (rd_L9 x3_4 x10_3).length c510_0) (rd_L9 x3_4 x10_3)) := ⟨by rw [← hq_]; exact (by (with_reducible repeat (first | apply Kd.R_alloc | apply Kd.R_drewN | apply Kd.R_drew)); exact Kd.R_mono HL510_0.out (fun _ hk => hk.2))⟩; have n1_ : Aside0 (Kd.R (Kd.int .i64) 3 wr w.heap.size (fun k_ => some k_ ≠ (.slice (some ad512) t495.length co83 : Value).ownBlock) (.slice A512_0 (rd_L2 t495 x10_3).length c512_0) (rd_L2 t495 x10_3)) := ⟨by rw [← hq_]; exact (by (with_reducible repeat (first | apply Kd.R_alloc | apply Kd.R_drewN | apply Kd.R_drew)); exact Kd.R_mono HL512_0.out (fun _ hk => hk.2))⟩; have n2_ : Aside0 (Kd.S (Kd.slice 4 Kd.bool) 33 wr w.heap.size (fun _ => True) (.slice (some ad510) x3_4.length co82) x3_4) := ⟨by rw [← hq_]; exact (by (with_reducible repeat (first | apply Kd.S_alloc | apply Kd.S_drewN | apply Kd.S_drew)); exact HO_3.out)⟩; have n3_ : Aside0 (Kd.S (Kd.slice 3 (Kd.int .i64)) 60 wr w.heap.size (fun _ => True) (.slice (some ad512) t495.length co83) t495) := ⟨by rw [← hq_]; exact (by (with_reducible repeat (first | apply Kd.S_alloc | apply Kd.S_drewN | apply Kd.S_drew)); exact HO_5.out)⟩; have n4_ : Aside0 (wr.heap[gb487]? = some (.cells #[.slice A0_0 l0_0.length c0_0] 29 (0, 0))) := ⟨by rw [← hq_]; exact (by (with_reducible repeat (first | refine blk_drewN ?_ _ | refine blk_drew ?_ | refine blk_alloc ?_ _)); exact BK487.out)⟩; have n5_ : Aside0 (Below w.heap.size w wr) := ⟨by rw [← hq_]; exact (by repeat (first | (with_reducible first | exact HB.out | apply below_alloc | apply pw_below_drewN | apply below_drew1 | refine below_set ?_ GE487.out) | exact HB.out))⟩; have n6_ : Aside0 (Kd.C Kd.bool wr (some ad511) (rd_L9 x3_4 x10_3).length (rd_L9 x3_4 x10_3)) := ⟨by rw [← hq_]; exact (by repeat (first | (with_reducible exact HR510_0.out) | (with_reducible refine Kd.C_alloc ?_ _) | (with_reducible refine Kd.C_drewN ?_ _) | (with_reducible refine Kd.C_drew ?_) | exact HR510_0.out))⟩; have n7_ : Aside0 (Kd.C (Kd.int .i64) wr A512_0 (rd_L2 t495 x10_3).length (rd_L2 t495 x10_3)) := ⟨by rw [← hq_]; exact (by repeat (first | (with_reducible exact HR512_0.out) | (with_reducible refine Kd.C_alloc ?_ _) | (with_reducible refine Kd.C_drewN ?_ _) | (with_reducible refine Kd.C_drew ?_) | exact HR512_0.out))⟩; (try replace hx510_0 := cell_at hq_ hx510_0); clear HL510_0 HL512_0 HO_3 HO_5 BK487 HB HR510_0 HR512_0 hq_; have HL510_0 := n0_; have HL512_0 := n1_; have HO_3 := n2_; have HO_5 := n3_; have BK487 := n4_; have HB := n5_; have HR510_0 := n6_; have HR512_0 := n7_; clear n0_ n1_ n2_ n3_ n4_ n5_ n6_ n7_)); have p514 : 0 ≤ (x10_3 : Int) := of_decide_eq_true (by first | (with_reducible assumption) | assumption); have q514 : x10_3 < (x3_4.length : Int) := of_decide_eq_true (by first | (with_reducible assumption) | assumption); obtain ⟨ad514, A514_0, c514_0, e514, hx514_0, hl514_0, hi514_0⟩ := at_L9 (Kd.S_reads' HO_3.out).2.2 x10_3 p514 q514; obtain rfl : ad510 = ad514 := (by injection e514); obtain ⟨ce514, hce514, hMe514, hcc514⟩ := Kd.S_get HO_3.out [] x10_3 p514 (by first | exact q514 | exact of_decide_eq_true (by first | (with_reducible assumption) | assumption) | (have e_ := (Kd.S_reads' HO_3.out).1; omega)); obtain ⟨ve514_0, rfl, ge514_0⟩ := hMe514; have hv514_0 := hcc514 0 _ rfl; rw [Nat.add_zero, show ((Kd.slice 4 Kd.bool)).sz = 1 from rfl, Nat.mul_one] at hv514_0; replace hv514_0 := Option.some.inj (hv514_0.symm.trans hx514_0); rw [hv514_0] at ge514_0; have HL514_0 := Aside0.mk (show Kd.R Kd.bool 4 _ _ _ _ (rd_L9 x3_4 x10_3) from ge514_0); clear hv514_0 ge514_0; have HX514_0 := Aside0.mk hx514_0; clear hcc514 hce514; have HR514_0 := Aside0.mk hi514_0; have HC514_0 := Aside0.mk hl514_0; clear hi514_0 hl514_0; replace p514 := eq_true p514; replace q514 := eq_true q514; have ea_ := Option.some.inj (hx510_0.symm.trans hx514_0); injection ea_ with ea_ en_ ec_; subst ea_; subst ec_; clear en_; have p80 : 0 ≤ (x11_4 : Int) := of_decide_eq_true (by first | (with_reducible assumption) | assumption); have q80 : (x11_4 : Int) < (((rd_L9 x3_4 x10_3).length : Int) : Int) := of_decide_eq_true (by first | (with_reducible assumption) | assumption); obtain ⟨go80, co80, eo80, gb80, gl80, cl80, HG80⟩ := Kd.R_form HL514_0.out (by omega); (first | cases eo80 | (injection eo80 with ea_ en_ ec_; (first | subst ea_ | (injection ea_ with ea_; subst ea_)); subst ec_; clear en_)); have GB80 := Aside0.mk gb80; have GG80 := Aside0.mk HG80; clear gb80 gl80 HG80; (first | simp only [add_plain] at hx511_0 | skip); obtain ⟨hx80_0, hf80_0⟩ := Kd.R_celln false HL514_0.out (x11_4 : Int) p80 q80; replace p80 := eq_true p80; replace q80 := eq_true q80; have hq84 : (x10_3 : Int) < (x3_4.length : Int) := (by have h_ : (x10_3 : Int) < ((x3_4.length : Int) : Int) := of_decide_eq_true (by first | (with_reducible assumption) | assumption); first | exact h_ | (have e_ := (Kd.S_reads' HO_3.out).1; omega) | simpa only [List.length_set, List.length_set] using h_); obtain ⟨oki84, ce84, hcl84, hM84, hcc84, hok84, hbk84⟩ := Kd.S_borrow HO_3.out [] (x10_3 : Int) (of_decide_eq_true (by first | (with_reducible assumption) | assumption)) hq84; obtain ⟨ve84_0, rfl, ge84_0⟩ := hM84; have hv84 := hcc84 0 _ rfl; rw [Nat.add_zero, show ((Kd.slice 4 Kd.bool)).sz = 1 from rfl, Nat.mul_one] at hv84; replace hv84 := Option.some.inj (hv84.symm.trans HX514_0.out); subst hv84; clear hcc84 hcl84; replace ge84_0 := (show Kd.R Kd.bool 4 _ _ _ _ (rd_L9 x3_4 x10_3) from ge84_0); have HP84 := Kd.R_putg ge84_0 (x11_4 : Int) false) | ((with_reducible refine gate_store (t := 4) (p := 106) rfl ?_); refine store_event (t := 4) (p := 106) (v := ?vo_w85) (w1 := (wr.setCell ⟨go80, (x11_4 : Int).toNat, none⟩ (.bool false))) ?hg ?ho ?hn ?hr ?_; (case ho => rfl); (case hg => rfl); (case hn => rfl); (case hr => first | (go_simp; done) | (go_simp; rfl)); intro w85 hw; have hg : wr.grownBy w85 (some go80) := (by rw [hw]; exact HP84.2); have hz_ : Kd.R Kd.bool 4 w85 w.heap.size oki84 (.slice (some ⟨go80, 0, none⟩) (rd_L9 x3_4 x10_3).length c510_0) y515 := (by rw [hw, Ny515.out]; exact HP84.1); have hp_ : Kd.S (Kd.slice 4 Kd.bool) 33 w85 w.heap.size (fun _ => True) (.slice (some ad510) x3_4.length co82) y517 := (by rw [Ny517.out]; exact hbk84 hg (fun k_ e_ => by injection e_ with e_; subst e_; exact ge84_0.1 _ rfl) (Kd.M_row hz_)); have hm_ := Kd.R_mono hz_ hok84; clear HP84 hbk84; have n0_ := Aside0.mk (hp_); have n1_ := Aside0.mk (Kd.S_over' (v := (.slice (some ⟨go80, 0, none⟩) (rd_L9 x3_4 x10_3).length c510_0)) (by (with_reducible repeat (first | apply Kd.S_alloc | apply Kd.S_drewN | apply Kd.S_drew)); exact HO_5.out) (Kd.R_typed HL514_0.out) (by decide) hg); have n2_ := Aside0.mk (blk_grown (g := gb487) (o := .cells #[.slice A0_0 l0_0.length c0_0] 29 (0, 0)) (by (with_reducible repeat (first | refine blk_drewN ?_ _ | refine blk_drew ?_ | refine blk_alloc ?_ _)); exact BK487.out) hg (Kd.R_ne HL514_0.out BK487.out (by decide))); have n3_ := Aside0.mk ((by rw [hw]; exact below_set (HB.out) GB80.out : Below w.heap.size w w85)); have n4_ := Aside0.mk (hm_); have n5_ := Aside0.mk ((Kd.R_reads' hm_).2.1); clear HO_3; clear HO_5; clear BK487; clear HB; clear HL510_0; clear HL512_0; clear HL514_0; have HO_3 := n0_; have HO_5 := n1_; have BK487 := n2_; have HB := n3_; have HL518 := n4_; have HC516 := n5_; clear n0_ n1_ n2_ n3_ n4_ n5_; clear hg hw hp_ hz_ hm_ hok84))
                      go_roundg k4
                      case measure => have := HK1.out; have := HK2.out; have := HK3.out; have := HK4.out; omega
                      case rel => exact ⟨(y517), (true), (wrap64 (x11_4 + 1)), (by first | rfl | (simp; done) | (simp [*]; done)), (by first | rfl | (simp; done) | (simp [*]; done)), H', ⟨by have := HK1.out; have := HK2.out; have := HK3.out; have := HK4.out; omega⟩, ⟨by (with_reducible repeat (first | apply Kd.S_alloc | apply Kd.S_drewN | apply Kd.S_drew)); exact HO_3.out⟩, ⟨by (with_reducible repeat (first | apply Kd.S_alloc | apply Kd.S_drewN | apply Kd.S_drew)); exact HO_5.out⟩, ⟨by (with_reducible repeat (first | refine blk_drewN ?_ _ | refine blk_drew ?_ | refine blk_alloc ?_ _)); exact BK487.out⟩, ⟨by repeat (first | (with_reducible first | exact HB.out | apply below_alloc | apply pw_below_drewN | apply below_drew1 | refine below_set ?_ GE487.out) | exact HB.out)⟩⟩
                    ·rw [if_neg c74] at H
                     exact absurd H (by simp)
                  ·replace c70 := Bool.eq_false_iff.mpr c70
                   subst c70
                   have H1 : (spec_FlowDoms.l4 k4 x3_4 t495 x9_4 x10_3 (wrap64 (x11_4 + 1)) l0_0) = some r := by rw [if_neg (show ¬ (false = true) by decide)] at H; exact H
                   clear H
                   have H := H1
                   clear H1
                   have H' := Aside0.mk H
                   clear H
                   have hcz86_0 : wr.cell? ⟨gb487, 0, none⟩ = some (.slice A0_0 l0_0.length c0_0) := (blk_cell BK487.out 0).trans rfl
                   have hfz86_0 := blk_frozen BK487.out 0
                   obtain ⟨Ao87, co87, eo87⟩ := Kd.S_slice HO_3.out
                   subst eo87
                   have p510 : 0 ≤ (x10_3 : Int) := of_decide_eq_true (by first | (with_reducible assumption) | assumption)
                   have q510 : x10_3 < (x3_4.length : Int) := of_decide_eq_true (by first | (with_reducible assumption) | assumption)
                   obtain ⟨ad510, A510_0, c510_0, e510, hx510_0, hl510_0, hi510_0⟩ := at_L9 (Kd.S_reads' HO_3.out).2.2 x10_3 p510 q510
                   cases e510
                   obtain ⟨ce510, hce510, hMe510, hcc510⟩ := Kd.S_get HO_3.out [] x10_3 p510 (by first | exact q510 | exact of_decide_eq_true (by first | (with_reducible assumption) | assumption) | (have e_ := (Kd.S_reads' HO_3.out).1; omega))
                   obtain ⟨ve510_0, rfl, ge510_0⟩ := hMe510
                   have hv510_0 := hcc510 0 _ rfl
                   rw [Nat.add_zero, show ((Kd.slice 4 Kd.bool)).sz = 1 from rfl, Nat.mul_one] at hv510_0
                   replace hv510_0 := Option.some.inj (hv510_0.symm.trans hx510_0)
                   rw [hv510_0] at ge510_0
                   have HL510_0 := Aside0.mk (show Kd.R Kd.bool 4 _ _ _ _ (rd_L9 x3_4 x10_3) from ge510_0)
                   clear hv510_0 ge510_0
                   have HX510_0 := Aside0.mk hx510_0
                   clear hcc510 hce510
                   have HR510_0 := Aside0.mk hi510_0
                   have HC510_0 := Aside0.mk hl510_0
                   clear hi510_0 hl510_0
                   replace p510 := eq_true p510
                   replace q510 := eq_true q510
                   have p511 : 0 ≤ (x11_4 : Int) := of_decide_eq_true (by first | (with_reducible assumption) | assumption)
                   have q511 : x11_4 < ((rd_L9 x3_4 x10_3).length : Int) := of_decide_eq_true (by first | (with_reducible assumption) | assumption)
                   obtain ⟨ad511, e511, hx511_0⟩ := Kd.at_bool (by repeat (first | (with_reducible exact HR510_0.out) | (with_reducible refine Kd.C_alloc ?_ _) | (with_reducible refine Kd.C_drewN ?_ _) | (with_reducible refine Kd.C_drew ?_) | exact HR510_0.out)) x11_4 p511 q511
                   (try rw [← Nbq69.out] at hx511_0)
                   cases e511
                   replace p511 := eq_true p511
                   replace q511 := eq_true q511
                   go_wp2
                   go_roundg k4
                   case measure => have := HK1.out; have := HK2.out; have := HK3.out; have := HK4.out; omega
                   case rel => exact ⟨(x3_4), (x9_4), (wrap64 (x11_4 + 1)), (by first | rfl | (simp; done) | (simp [*]; done)), (by first | rfl | (simp; done) | (simp [*]; done)), H', ⟨by have := HK1.out; have := HK2.out; have := HK3.out; have := HK4.out; omega⟩, ⟨by (with_reducible repeat (first | apply Kd.S_alloc | apply Kd.S_drewN | apply Kd.S_drew)); exact HO_3.out⟩, ⟨by (with_reducible repeat (first | apply Kd.S_alloc | apply Kd.S_drewN | apply Kd.S_drew)); exact HO_5.out⟩, ⟨by (with_reducible repeat (first | refine blk_drewN ?_ _ | refine blk_drew ?_ | refine blk_alloc ?_ _)); exact BK487.out⟩, ⟨by repeat (first | (with_reducible first | exact HB.out | apply below_alloc | apply pw_below_drewN | apply below_drew1 | refine below_set ?_ GE487.out) | exact HB.out)⟩⟩
                 ·rw [if_neg c68] at H
                  exact absurd H (by simp)
                ·rw [if_neg c67] at H
                 exact absurd H (by simp)
               ·rw [if_neg c66] at H
                exact absurd H (by simp)
              ·rw [if_neg c65] at H
               exact absurd H (by simp)
             ·rw [if_neg c64] at H
              have c64b0 : decide (x11_4 < (l0_0.length : Int)) = false := decide_eq_false c64
              clear c64
              have H' := Aside0.mk H
              clear H
              have hcz88_0 : wr.cell? ⟨gb487, 0, none⟩ = some (.slice A0_0 l0_0.length c0_0) := (blk_cell BK487.out 0).trans rfl
              have hfz88_0 := blk_frozen BK487.out 0
              go_wp2
              go_roundg k4
              case measure => have := HK1.out; have := HK2.out; have := HK3.out; have := HK4.out; omega
              case rel => exact ⟨(x3_4), (x9_4), (wrap64 (x10_3 + 1)), (by first | rfl | (simp; done) | (simp [*]; done)), (by first | rfl | (simp; done) | (simp [*]; done)), H', ⟨by have := HK1.out; have := HK2.out; have := HK3.out; have := HK4.out; omega⟩, ⟨by (with_reducible repeat (first | apply Kd.S_alloc | apply Kd.S_drewN | apply Kd.S_drew)); exact HO_3.out⟩, ⟨by (with_reducible repeat (first | apply Kd.S_alloc | apply Kd.S_drewN | apply Kd.S_drew)); exact HO_5.out⟩, ⟨by (with_reducible repeat (first | refine blk_drewN ?_ _ | refine blk_drew ?_ | refine blk_alloc ?_ _)); exact BK487.out⟩, ⟨by repeat (first | (with_reducible first | exact HB.out | apply below_alloc | apply pw_below_drewN | apply below_drew1 | refine below_set ?_ GE487.out) | exact HB.out)⟩⟩
          ·rw [if_neg c62] at H
           have c62b0 : decide (x10_3 < (l0_0.length : Int)) = false := decide_eq_false c62
           clear c62
           have H' := Aside0.mk H
           clear H
           have hcz89_0 : wr.cell? ⟨gb487, 0, none⟩ = some (.slice A0_0 l0_0.length c0_0) := (blk_cell BK487.out 0).trans rfl
           have hfz89_0 := blk_frozen BK487.out 0
           go_wp2
           go_roundg k3
           case measure => have := HK1.out; have := HK2.out; have := HK3.out; omega
           case rel => exact ⟨(x3_3), (x9_3), (by first | rfl | (simp; done) | (simp [*]; done)), H', ⟨by have := HK1.out; have := HK2.out; have := HK3.out; omega⟩, ⟨by (with_reducible repeat (first | apply Kd.S_alloc | apply Kd.S_drewN | apply Kd.S_drew)); exact HO_3.out⟩, ⟨by (with_reducible repeat (first | apply Kd.S_alloc | apply Kd.S_drewN | apply Kd.S_drew)); exact HO_5.out⟩, ⟨by (with_reducible repeat (first | refine blk_drewN ?_ _ | refine blk_drew ?_ | refine blk_alloc ?_ _)); exact BK487.out⟩, ⟨by repeat (first | (with_reducible first | exact HB.out | apply below_alloc | apply pw_below_drewN | apply below_drew1 | refine below_set ?_ GE487.out) | exact HB.out)⟩⟩
       ·replace c61 := Bool.eq_false_iff.mpr c61
        subst c61
        have H1 : (some x3_2) = some r := by rw [if_neg (show ¬ (false = true) by decide)] at H; exact H
        clear H
        have H := H1
        clear H1
        obtain rfl := Option.some.inj H
        go_wp2
        go_ret
        exact ⟨_, by first | rfl | (simp [errW_none, errW_some] <;> rfl) | (simp [*, errW_none, errW_some] <;> rfl), by (with_reducible repeat (first | apply Kd.S_alloc | apply Kd.S_drewN | apply Kd.S_drew)); exact HO_3.out, by repeat (first | (with_reducible first | exact HB.out | apply below_alloc | apply pw_below_drewN | apply below_drew1 | refine below_set ?_ GE487.out) | exact HB.out)⟩
 ·replace c3 := Bool.eq_false_iff.mpr c3
  subst c3
  have H1 : (some y488) = some r := by rw [if_neg (show ¬ (false = true) by decide)] at H; exact H
  clear H
  have H := H1
  clear H1
  obtain rfl := Option.some.inj H
  go_enter Try.func41, Try.ntmps41
  go_wp2_with (first | ((with_reducible refine gate_dst (N := 1) rfl ?_); refine box_event ?hg (N := 1) ?hd (cs := #[.slice A0_0 l0_0.length c0_0]) (t := 29) ?hr ?_; (case hd => rfl); (case hg => rfl); (case hr => first | (go_simp; done) | (go_simp; rfl)); intro gb487 hg w90 hbox hb; have n_ := boxed (bel HB.out) hb hbox hg; clear HB hb hbox hg; obtain ⟨HB, BK487, GW487, GE487⟩ := n_) | ((with_reducible refine gate_dst (N := 12) rfl ?_); refine Kd.S_lit (Kd.slice 4 Kd.bool) _ 33 ?hg (N := 12) ?hd (xs := ([] : List (List Bool))) (inner := []) (ok := fun _ => True) (okp := fun _ => True) ?hr ?hp (fun _ hk => hk) trivial (Below.refl _ _) (Nat.le_refl _) (by simp) ?_; (case hd => rfl); (case hg => rfl); (case hr => first | (go_simp; done) | (go_simp; rfl)); (case hp => exact (Reps.none _ _)); intro v489 w91 ho92 hb hg_ hnew_; clear hg_ hnew_; (first | rw [← Ny488.out] at ho92 | (simp only [Int.reduceToNat] at ho92; rw [← Ny488.out] at ho92)); have n0_ := Aside0.mk (Kd.S_lower ho92 (below_size (by repeat (first | (with_reducible first | exact HB.out | apply below_alloc | apply pw_below_drewN | apply below_drew1 | refine below_set ?_ GE487.out) | exact HB.out)))); have n1_ := Aside0.mk (blk_below (g := gb487) (o := .cells #[.slice A0_0 l0_0.length c0_0] 29 (0, 0)) (by (with_reducible repeat (first | refine blk_drewN ?_ _ | refine blk_drew ?_ | refine blk_alloc ?_ _)); exact BK487.out) hb); have n2_ := Aside0.mk (below_step (by repeat (first | (with_reducible first | exact HB.out | apply below_alloc | apply pw_below_drewN | apply below_drew1 | refine below_set ?_ GE487.out) | exact HB.out)) hb); clear BK487; clear HB; have HO490 := n0_; have BK487 := n1_; have HB := n2_; clear n0_ n1_ n2_; clear hb ho92; have hcz93_0 : w91.cell? ⟨gb487, 0, none⟩ = some (.slice A0_0 l0_0.length c0_0) := (blk_cell BK487.out 0).trans rfl; have hfz93_0 := blk_frozen BK487.out 0) | ((with_reducible refine gate_callee (f := 60) rfl ?_); refine goesL_ (some 14) rfl rfl Try.func60 (by kernel_rfl) rfl #[.agg #[.slice A0_0 l0_0.length c0_0]] rfl (by (try simp only [List.map_toArray, List.map_cons, List.map_nil]); first | done | rfl | (simp only [List.length_drop, List.length_take]; rfl)) ?_; (with_reducible refine (spec_ProgOk.calls k _ _ l0_0 false _ ?side1 ?side2 A2.out).mono ?_); (case side1 => repeat (first | exact (Kd.C_below HR0_0.out HB.out) | (with_reducible refine Kd.C_alloc ?_ _) | (with_reducible refine Kd.C_drewN ?_ _) | (with_reducible refine Kd.C_drew ?_))); (case side2 => exact HC0_0.out); rintro e w94 ⟨rfl, hb⟩; refine ⟨_, rfl, ?_⟩; have n0_ := Aside0.mk (Kd.S_below (by (with_reducible repeat (first | apply Kd.S_alloc | apply Kd.S_drewN | apply Kd.S_drew)); exact HO490.out) hb); have n1_ := Aside0.mk (blk_below (g := gb487) (o := .cells #[.slice A0_0 l0_0.length c0_0] 29 (0, 0)) (by (with_reducible repeat (first | refine blk_drewN ?_ _ | refine blk_drew ?_ | refine blk_alloc ?_ _)); exact BK487.out) hb); have n2_ := Aside0.mk (below_step (by repeat (first | (with_reducible first | exact HB.out | apply below_alloc | apply pw_below_drewN | apply below_drew1 | refine below_set ?_ GE487.out) | exact HB.out)) hb); clear HO490; clear BK487; clear HB; have HO490 := n0_; have BK487 := n1_; have HB := n2_; clear n0_ n1_ n2_; (try clear hb); (try clear hb2); (try clear hk); (try clear hi)))
  go_ret
  exact ⟨_, by first | rfl | (simp [errW_none, errW_some] <;> rfl) | (simp [*, errW_none, errW_some] <;> rfl), by (with_reducible repeat (first | apply Kd.S_alloc | apply Kd.S_drewN | apply Kd.S_drew)); exact HO490.out, by repeat (first | (with_reducible first | exact HB.out | apply below_alloc | apply pw_below_drewN | apply below_drew1 | refine below_set ?_ GE487.out) | exact HB.out)⟩

set_option maxHeartbeats 4000000 in
theorem domOne.calls (x : Int) (g1 g2 : Nat) (A1 : Option Addr) (c1 : Nat) (l1 : List (List Bool)) (y : Int) (w : World) (hb1 : w.heap[g1]? = some (.cells #[.slice A1 l1.length c1] 56 (0, 0))) (hb2 : w.heap[g2]? = some (.cells #[.int .i64 y] 3 (0, 0))) (hr1 : Kd.C (Kd.slice 4 Kd.bool) w A1 l1.length l1) (h0 : 0 ≤ x) (h1 : x < (l1.length : Int)) (h2 : 0 ≤ y) (h3 : y < ((rd_L9 l1 x).length : Int)) :
    Calls Try.prog 112 #[.int .i64 x, .pointer (some ⟨g1, 0, none⟩), .pointer (some ⟨g2, 0, none⟩)] w fun e w' => e = .returned (.bool (!(rdOf false (rd_L9 l1 x) y))) ∧ Drawn0 w w' := by
  have hc1 : w.cell? ⟨g1, 0, none⟩ = some (.slice A1 l1.length c1) := (blk_cell hb1 0).trans rfl
  have hc2 : w.cell? ⟨g2, 0, none⟩ = some (.int .i64 y) := (blk_cell hb2 0).trans rfl
  obtain ⟨ad, A2, c2, e1, hx, hl2, hr2⟩ := at_L9 hr1 x h0 h1
  cases e1
  obtain ⟨ad2, e2, hy⟩ := Kd.at_bool hr2 y h2 h3
  cases e2
  have d0 : decide (0 ≤ x) = true := decide_eq_true h0
  have d1 : decide (x < (l1.length : Int)) = true := decide_eq_true h1
  have d2 : decide (0 ≤ y) = true := decide_eq_true h2
  have d3 : decide (y < ((rd_L9 l1 x).length : Int)) = true := decide_eq_true h3
  replace h0 := eq_true h0
  replace h1 := eq_true h1
  replace h2 := eq_true h2
  replace h3 := eq_true h3
  clear hb1 hb2 hr1 hr2 hl2
  go_enter Try.func112, Try.ntmps112
  go_wp2
  repeat (go_quiet (fail); try go_wp2)
  go_ret
  exact ⟨rfl, by repeat (first | exact Drawn0.refl _ | apply Drawn0.step)⟩
def anyDom.f (l0 : List Int) (l1 : List (List Bool)) (y : Int) : Option Bool := anyO (fun x => if 0 ≤ x then (if x < (l1.length : Int) then (if 0 ≤ y then (if y < ((rd_L9 l1 x).length : Int) then some (!(rdOf false (rd_L9 l1 x) y)) else none) else none) else none) else none) l0
theorem anyDom.calls (g1 g2 : Nat) (A0 : Option Addr) (c0 : Nat) (l0 : List Int) (A1 : Option Addr) (c1 : Nat) (l1 : List (List Bool)) (y : Int) (r : Bool) (w : World) (hr0 : Kd.C (Kd.int .i64) w A0 l0.length l0) (hc0 : l0.length ≤ c0) (hr1 : Kd.C (Kd.slice 4 Kd.bool) w A1 l1.length l1) (hc1 : l1.length ≤ c1) (hb1 : w.heap[g1]? = some (.cells #[.slice A1 l1.length c1] 56 (0, 0))) (hb2 : w.heap[g2]? = some (.cells #[.int .i64 y] 3 (0, 0))) (h : anyDom.f l0 l1 y = some r) :
    Calls Try.prog 67 #[.slice A0 l0.length c0, .func (.func 112) #[] #[.pointer (some ⟨g1, 0, none⟩), .pointer (some ⟨g2, 0, none⟩)]] w fun e w' => e = .returned (.bool r) ∧ Drawn0 w w' := by
  obtain ⟨h1, h2⟩ := anyO_some _ _ _ h
  rw [h2]
  refine ContainsFuncInt.calls _ 112 _ (enters_of Try.func112 (by kernel_rfl) rfl) A0 c0 l0 w hr0 (fun x W hd hx => ?_)
  have h3 := h1 x hx
  by_cases ha : 0 ≤ x
  · by_cases hb : x < (l1.length : Int)
    · by_cases hc : 0 ≤ y
      · by_cases hd' : y < ((rd_L9 l1 x).length : Int)
        · simp only [ha, hb, hc, hd', if_true, Option.getD_some] at h3 ⊢
          exact domOne.calls x g1 g2 A1 c1 l1 y W (by obtain ⟨m, rfl⟩ := hd; exact blk_drewN hb1 m) (by obtain ⟨m, rfl⟩ := hd; exact blk_drewN hb2 m) (Kd.C_below hr1 hd.below) ha hb hc hd'
        · simp [ha, hb, hc, hd'] at h3
      · simp [ha, hb, hc] at h3
    · simp [ha, hb] at h3
  · simp [ha] at h3

structure DomSt (w : World) (q gp gx : Nat) (A0 : Option Addr) (n c0 : Nat) (Ax : Option Addr) (cx : Nat) (AR : Option Addr) (cR : Nat) (R : List Bool) (AP : Option Addr) (cP : Nat) (P : List (List Int)) (W : World) (M : List (List Bool)) : Prop where
  below : Below w.heap.size w W
  box : W.heap[gp]? = some (.cells #[.slice A0 n c0] 29 (0, 0))
  out : W.heap[gx]? = some (.cells #[.slice Ax n cx] 56 (0, 0))
  lt : gp < q
  ge : w.heap.size ≤ gx
  base : w.heap.size ≤ q
  qle : q ≤ W.heap.size
  rows : Kd.R Kd.bool 4 W w.heap.size (fun k => k < q) (.slice AR R.length cR) R
  pres : Kd.S (Kd.slice 3 (Kd.int .i64)) 60 W w.heap.size (fun k => k < q) (.slice AP P.length cP) P
  mat : Kd.S (Kd.slice 4 Kd.bool) 33 W w.heap.size (fun k => q ≤ k) (.slice Ax n cx) M
section
variable {w : World} {q gp gx : Nat} {A0 : Option Addr} {n c0 : Nat} {Ax : Option Addr} {cx : Nat} {AR : Option Addr} {cR : Nat} {R : List Bool} {AP : Option Addr} {cP : Nat} {P : List (List Int)} {W W' : World} {M : List (List Bool)}
theorem DomSt.step (h : DomSt w q gp gx A0 n c0 Ax cx AR cR R AP cP P W M) (hb : Below W.heap.size W W') : DomSt w q gp gx A0 n c0 Ax cx AR cR R AP cP P W' M :=
  ⟨below_step h.below hb, blk_below h.box hb, blk_below h.out hb, h.lt, h.ge, h.base, Nat.le_trans h.qle hb.size, Kd.R_below h.rows hb, Kd.S_below h.pres hb, Kd.S_below h.mat hb⟩
theorem DomSt.len (h : DomSt w q gp gx A0 n c0 Ax cx AR cR R AP cP P W M) : n = M.length := (Kd.S_reads' h.mat).1
theorem DomSt.form (h : DomSt w q gp gx A0 n c0 Ax cx AR cR R AP cP P W M) (hp : 0 < n) : ∃ g0, Ax = some ⟨g0, 0, none⟩ := by
  have hl := h.len
  obtain ⟨g, cap, e, _⟩ := Kd.S_form h.mat (by omega)
  injection e with e1 _ _
  exact ⟨g, e1⟩
/-- An element of an inner row is written. -/
theorem DomSt.put {g0 : Nat} (h : DomSt w q gp gx A0 n c0 (some ⟨g0, 0, none⟩) cx AR cR R AP cP P W M) (t s : Int) (h0 : 0 ≤ t) (h1 : t < n) (h2 : 0 ≤ s) (h3 : s < ((M.getD t.toNat []).length : Int)) :
    ∃ gi cap, W.cell? ⟨g0, t.toNat, none⟩ = some (.slice (some ⟨gi, 0, none⟩) (M.getD t.toNat []).length cap) ∧ W.cell? ⟨gi, s.toNat, none⟩ = some (.bool ((M.getD t.toNat []).getD s.toNat false)) ∧ W.frozen? ⟨gi, s.toNat, none⟩ = false ∧
      ∀ (b : Bool) (W' : World), W' = W.setCell ⟨gi, s.toNat, none⟩ (.bool b) → DomSt w q gp gx A0 n c0 (some ⟨g0, 0, none⟩) cx AR cR R AP cP P W' (M.set t.toNat ((M.getD t.toNat []).set s.toNat b)) := by
  have hl := h.len
  obtain ⟨v, oki, hx, hr, hok, hng, hback⟩ := SS_inner rfl h.mat t h0 (by omega)
  obtain ⟨gi, cap, e, hb1, hb2, cells, hcells⟩ := Kd.R_form hr (by omega)
  subst e
  have hoki : oki gi := hr.1 gi rfl
  have hq := hok gi hoki
  obtain ⟨c, hcl, hM, hcc, hfr⟩ := Kd.R_elem hr false s h2 (by omega)
  have hsz : Kd.bool.sz = 1 := rfl
  rw [hsz] at hcl
  have hz : W.cell? ⟨gi, s.toNat, none⟩ = some (.bool ((M.getD t.toNat []).getD s.toNat false)) := by
    have h4 := Kd.at_bool (Kd.R_reads' hr).2.2 s h2 (by omega)
    obtain ⟨ad, e5, h6⟩ := h4
    cases e5
    have e6 : (⟨gi, 0, none⟩ : Addr).add s.toNat = ⟨gi, s.toNat, none⟩ := by
      by_cases h7 : s.toNat = 0
      · rw [h7]; rfl
      · simp [Addr.add, h7]
    rw [e6] at h6
    exact h6
  have hf := hfr 0
  rw [hsz, Nat.mul_one, Nat.add_zero] at hf
  refine ⟨gi, cap, hx, hz, hf, fun b W' hw => ?_⟩
  have hk1 : Kept W W' (fun k => k = gi) := by rw [hw]; exact Kept.setCell (S := fun k => k = gi) (Kept.refl _ _) (p := ⟨gi, s.toNat, none⟩) (.inl rfl) _
  have hput := Kd.R_putn hr s b
  have hm := hback W' _ (hk1.mono (fun k hk => by rw [hk]; exact hoki)) (by rw [hw]; exact Kd.R_mono hput (fun k hk => .inl hk))
  have hne : gx ≠ gi := blk_ne h.out hcells (by decide)
  refine ⟨by rw [hw]; exact below_set h.below hb1, blk_kept h.box hk1 (fun e => by have := h.lt; omega), blk_kept h.out hk1 hne, h.lt, h.ge, h.base, Nat.le_trans h.qle hk1.1, Kd.R_kept h.rows hk1 (fun k hk e => by omega), Kd.S_kept h.pres hk1 (fun k hk e => by omega), hm⟩
/-- A new row comes into the table. -/
theorem DomSt.putRow {g0 : Nat} {u : Value} {xs : List Bool} {V : World} (h : DomSt w q gp gx A0 n c0 (some ⟨g0, 0, none⟩) cx AR cR R AP cP P V M) (hb : Below V.heap.size V W) (hr : Kd.R Kd.bool 4 W w.heap.size (fun k => V.heap.size ≤ k) u xs) (t : Int) (h0 : 0 ≤ t) (h1 : t < n) :
    (∃ v0, W.cell? ⟨g0, t.toNat, none⟩ = some v0) ∧ W.frozen? ⟨g0, t.toNat, none⟩ = false ∧ ∀ W', W' = W.setCell ⟨g0, t.toNat, none⟩ u → DomSt w q gp gx A0 n c0 (some ⟨g0, 0, none⟩) cx AR cR R AP cP P W' (M.set t.toNat xs) := by
  have hl := h.len
  have h' := h.step hb
  have hS : Kd.S (Kd.slice 4 Kd.bool) 33 W w.heap.size (fun k => q ≤ k ∧ ¬ V.heap.size ≤ k) (.slice (some ⟨g0, 0, none⟩) n cx) M :=
    Kd.S_below (Kd.S_mono (Kd.S_bound h.mat) (fun k hk => ⟨hk.1, by have := hk.2.2.1; omega⟩)) hb
  obtain ⟨oki, c, hcl, hM, hcc, hfr, hoki, hH⟩ := Kd.S_elem hS [] t h0 h1
  obtain ⟨v0, rfl, hR0⟩ := hM
  have hz := hcc 0 v0 rfl
  have hf := hfr 0
  have hg0 : g0 < V.heap.size := by
    obtain ⟨g, cap, e, _, h5, _⟩ := Kd.S_form h.mat (by omega)
    injection e with e1 _ _
    injection e1 with e2
    injection e2 with e3
    omega
  have hs := Kd.S_seg (okg := fun k => V.heap.size ≤ k) (ok := fun k => q ≤ k) (Kd.H_mono hH (fun k hk => hk)) h0 h1 (seg := [u]) (j := 0) (show 0 + 1 ≤ 1 by decide) (x' := xs) (Kd.M_row hr) (fun k hk => .inr hk) (fun k hk => ⟨by
    have h7 : q ≤ V.heap.size := by
      obtain ⟨g, cap, e, _, h5, _⟩ := Kd.S_form h.mat (by omega)
      have h8 := (Kd.S_R h.mat).1 g (by rw [e]; rfl)
      omega
    omega, by omega⟩)
  have hsz : ((Kd.slice 4 Kd.bool)).sz = 1 := rfl
  rw [hsz, Nat.mul_one, Nat.add_zero] at hz hf hs
  refine ⟨⟨v0, hz⟩, hf, fun W' hw => ?_⟩
  have hs1 : Kd.S (Kd.slice 4 Kd.bool) 33 W' w.heap.size (fun k => q ≤ k) (.slice (some ⟨g0, 0, none⟩) n cx) (M.set t.toNat xs) := by rw [hw]; exact hs.1
  have hk1 : Kept W W' (fun k => k = g0) := by rw [hw]; exact Kept.setCell (S := fun k => k = g0) (Kept.refl _ _) (p := ⟨g0, t.toNat, none⟩) (.inl rfl) _
  have hgq : q ≤ g0 := (Kd.S_R h.mat).1 g0 rfl
  have hne : gx ≠ g0 := by
    have := Kd.R_ne (Kd.S_R h'.mat) h'.out (by decide)
    intro e
    exact this (by rw [e]; rfl)
  have hge0 : w.heap.size ≤ g0 := Nat.le_trans h.base hgq
  exact ⟨by rw [hw]; exact below_set h'.below hge0, blk_kept h'.box hk1 (fun e => by have := h.lt; omega), blk_kept h'.out hk1 hne, h.lt, h.ge, h.base, Nat.le_trans h'.qle hk1.1, Kd.R_kept h'.rows hk1 (fun k hk e => by omega), Kd.S_kept h'.pres hk1 (fun k hk e => by omega), hs1⟩

/-- .. told of a place that is known. -/
theorem DomSt.putAt {g0 : Nat} (h : DomSt w q gp gx A0 n c0 (some ⟨g0, 0, none⟩) cx AR cR R AP cP P W M) (t s : Int) (h0 : 0 ≤ t) (h1 : t < n) (h2 : 0 ≤ s) (h3 : s < ((M.getD t.toNat []).length : Int)) {gi len cap : Nat} (hc : W.cell? ⟨g0, t.toNat, none⟩ = some (.slice (some ⟨gi, 0, none⟩) len cap)) :
    W.cell? ⟨gi, s.toNat, none⟩ = some (.bool ((M.getD t.toNat []).getD s.toNat false)) ∧ W.frozen? ⟨gi, s.toNat, none⟩ = false ∧
      ∀ (b : Bool) (W' : World), W' = W.setCell ⟨gi, s.toNat, none⟩ (.bool b) → DomSt w q gp gx A0 n c0 (some ⟨g0, 0, none⟩) cx AR cR R AP cP P W' (M.set t.toNat ((M.getD t.toNat []).set s.toNat b)) := by
  obtain ⟨gi', cap', hy1, hy2, hf', hput'⟩ := h.put t s h0 h1 h2 h3
  rw [hc] at hy1
  injection hy1 with hy1
  injection hy1 with hy1 _ _
  injection hy1 with hy1
  injection hy1 with hy1 _ _
  subst hy1
  exact ⟨hy2, hf', hput'⟩
/-- A variable is written. -/
theorem DomSt.putBox {g tb : Nat} {cs : Array Value} {u : Value} (h : DomSt w q gp gx A0 n c0 Ax cx AR cR R AP cP P W M) (hb : W.heap[g]? = some (.cells cs tb (0, 0))) (ht : tb ≠ 4 ∧ tb ≠ 33 ∧ tb ≠ 56) (hg : w.heap.size ≤ g) (hq : q ≤ g) (hw : W' = W.setCell ⟨g, 0, none⟩ u) : DomSt w q gp gx A0 n c0 Ax cx AR cR R AP cP P W' M := by
  have hk1 : Kept W W' (fun k => k = g) := by rw [hw]; exact Kept.setCell (S := fun k => k = g) (Kept.refl _ _) (p := ⟨g, 0, none⟩) (.inl rfl) _
  have hM : Kd.S (Kd.slice 4 Kd.bool) 33 W w.heap.size (fun k => q ≤ k ∧ k ≠ g) (.slice Ax n cx) M := Kd.S_types h.mat hb (by
    intro q' hq'
    have : q' = 33 ∨ q' = 4 := by simpa [Kd.slice, Kd.bool, Kd.scalar] using hq'
    rcases this with rfl | rfl
    · exact ht.2.1.symm
    · exact ht.1.symm)
  exact ⟨by rw [hw]; exact below_set h.below hg, blk_kept h.box hk1 (fun e => by have := h.lt; omega), blk_kept h.out hk1 (blk_ne h.out hb ht.2.2.symm), h.lt, h.ge, h.base, Nat.le_trans h.qle hk1.1, Kd.R_kept h.rows hk1 (fun k hk e => by omega), Kd.S_kept h.pres hk1 (fun k hk e => by omega), Kd.S_mono (Kd.S_kept hM hk1 (fun k hk e => hk.2 e)) (fun k hk => hk.1)⟩
end

/-- The table as it begins. -/
def dom.row (R : List Bool) (n t : Nat) : List Bool := (List.range n).map fun s : Nat => R.getD t false && (R.getD s false && (decide (0 < t) || s == 0))
def dom.init (R : List Bool) (n : Nat) : List (List Bool) := (List.range n).map (dom.row R n)
mutual
def impl_Prog_doms.l2 : Nat → List (List Bool) → List (List Int) → Bool → Int → Option (List (List Bool))
  | 0, _, _, _, _ => none
  | k + 1, M, P, c, n => if c = true then (impl_Prog_doms.l3 k M P false 1 n) else (some M)
def impl_Prog_doms.l3 : Nat → List (List Bool) → List (List Int) → Bool → Int → Int → Option (List (List Bool))
  | 0, _, _, _, _, _ => none
  | k + 1, M, P, c, t, n => if t < n then (impl_Prog_doms.l4 k M P c t 0 n) else (impl_Prog_doms.l2 k M P c n)
def impl_Prog_doms.l4 : Nat → List (List Bool) → List (List Int) → Bool → Int → Int → Int → Option (List (List Bool))
  | 0, _, _, _, _, _, _ => none
  | k + 1, M, P, c, t, s, n => if s < n then (if 0 ≤ t then (if t < (M.length : Int) then (if 0 ≤ s then (if s < ((rd_L9 M t).length : Int) then (if rdOf false (rd_L9 M t) s = true then (if s = t then (impl_Prog_doms.l4 k M P c t (wrap64 (s + 1)) n) else (if t < (P.length : Int) then ((anyDom.f (rd_L2 P t) M s).bind fun b => (if b = true then (impl_Prog_doms.l4 k (M.set t.toNat ((rd_L9 M t).set s.toNat false)) P true t (wrap64 (s + 1)) n) else (impl_Prog_doms.l4 k M P c t (wrap64 (s + 1)) n))) else (none))) else (impl_Prog_doms.l4 k M P c t (wrap64 (s + 1)) n)) else (none)) else (none)) else (none)) else (none)) else (impl_Prog_doms.l3 k M P c (wrap64 (t + 1)) n)
end
def impl_Prog_doms.f (k : Nat) (l0_0 : List S68) : Option (List (List Bool)) := (impl_Prog_reach.f k l0_0).bind fun R => ((impl_Prog_preds.f k l0_0).bind fun P => (if l0_0.length ≤ 1000 ∧ R.length = l0_0.length then (impl_Prog_doms.l2 k (dom.init R l0_0.length) P true (l0_0.length : Int)) else none))
theorem dom_row_set (R : List Bool) (n t s : Nat) (xs : List Bool) (hs : s < n) (hl : xs.length = n) (h : ∀ j, j < s → xs[j]? = (dom.row R n t)[j]?) : ∀ j, j < s + 1 → (xs.set s (R.getD t false && (R.getD s false && (decide (0 < t) || s == 0))))[j]? = (dom.row R n t)[j]? := by
  intro j hj
  by_cases e : j = s
  · subst e
    rw [List.getElem?_set_self (by omega)]
    unfold dom.row
    rw [List.getElem?_map, List.getElem?_range hs]
    rfl
  · rw [List.getElem?_set_ne (by omega)]
    exact h j (by omega)
theorem row_done (R : List Bool) (n t : Nat) (xs : List Bool) (hl : xs.length = n) (h : ∀ j, j < n → xs[j]? = (dom.row R n t)[j]?) : xs = dom.row R n t := by
  apply List.ext_getElem?
  intro j
  by_cases hj : j < n
  · exact h j hj
  · rw [List.getElem?_eq_none (by omega), List.getElem?_eq_none (by simp [dom.row]; omega)]
theorem init_done (R : List Bool) (n : Nat) (M : List (List Bool)) (hl : M.length = n) (h : ∀ j, j < n → M[j]? = some (dom.row R n j)) : M = dom.init R n := by
  apply List.ext_getElem?
  intro j
  by_cases hj : j < n
  · rw [h j hj]
    unfold dom.init
    rw [List.getElem?_map, List.getElem?_range hj]
    rfl
  · rw [List.getElem?_eq_none (by omega), List.getElem?_eq_none (by simp [dom.init]; omega)]
theorem infoR : (Try.prog.info? 33).map (fun i => (i.zero, i.size, i.bytes)) = some (some (.slice none 0 0), 1, 24) := by kernel_rfl
theorem infoB : (Try.prog.info? 4).map (fun i => (i.zero, i.size, i.bytes)) = some (some (.bool false), 1, 1) := by kernel_rfl
section
variable {P : Program} {ops : Array Oper} {o : Oper} {a : Act} {Q : Exit → Act → World → Prop} {Kc : Act → World → Prop}
/-- A store as one step of a region that draws. -/
theorem skip_step {W w1 : World} (hw : Region.wanted o (yielded ops a.tmps) = true) (hrun : (execOp a.eval o).run P W = .ok .skip w1) (h : ∀ w', w' = w1 → Kc (a.put o.dst undef) w') : if Region.wanted o (yielded ops a.tmps) = true then Oper.wp P o a W Kc Q else Kc (a.put o.dst undef) W := by
  rw [if_pos hw]
  unfold Oper.wp
  rw [hrun]
  exact h _ rfl
end
section
variable {w : World} {q gp gx : Nat} {A0 : Option Addr} {n c0 : Nat} {Ax : Option Addr} {cx : Nat} {AR : Option Addr} {cR : Nat} {R : List Bool} {AP : Option Addr} {cP : Nat} {P : List (List Int)} {W W' : World} {M : List (List Bool)}
theorem DomSt.drewN (h : DomSt w q gp gx A0 n c0 Ax cx AR cR R AP cP P W M) (m : Nat) : DomSt w q gp gx A0 n c0 Ax cx AR cR R AP cP P (W.drewN m) M := h.step (pw_below_drewN (Below.refl _ _) m)
theorem DomSt.C (h : DomSt w q gp gx A0 n c0 Ax cx AR cR R AP cP P W M) : Kd.C (Kd.slice 4 Kd.bool) W Ax M.length M := by
  have h2 := Kd.S_reads' h.mat
  rw [← h2.1]
  exact h2.1 ▸ h2.2.2
theorem DomSt.cap (h : DomSt w q gp gx A0 n c0 Ax cx AR cR R AP cP P W M) : M.length ≤ cx := by
  have h2 := Kd.S_reads' h.mat
  rw [← h2.1]
  exact h2.2.1
end

section
variable {P : Program} {ops : Array Oper} {Q : Exit → Act → World → Prop} {S : World → Prop} {ds : List Nat}
/-- A region that draws: the world behind the draw by a letter. -/
theorem start2_ {Φ : World → Prop} {id n : Nat} {a : Act} {w : World} (l : Array Bool) (hm : P.follows .mixedOrders = true) (hn : ops.size = n) (hl : Array.replicate n false = l) (hΦ : Φ w.drew) (hS : ∀ W, Φ W → S W)
    (h : ∀ W, Φ W → S W → wpAnyLast P .any ops Q S ds n l a W) : (Code.region id ops true).wp P Q a w :=
  start_ l hm hn hl (hS _ hΦ) (fun h' => h _ hΦ h')
end
theorem DomSt.drew {w : World} {q gp gx : Nat} {A0 : Option Addr} {n c0 : Nat} {Ax : Option Addr} {cx : Nat} {AR : Option Addr} {cR : Nat} {R : List Bool} {AP : Option Addr} {cP : Nat} {P : List (List Int)} {W : World} {M : List (List Bool)} (h : DomSt w q gp gx A0 n c0 Ax cx AR cR R AP cP P W M) : DomSt w q gp gx A0 n c0 Ax cx AR cR R AP cP P W.drew M := h.step (below_drew (Below.refl _ _))
theorem DomSt.row {w : World} {q gp gx : Nat} {A0 : Option Addr} {n c0 : Nat} {Ax : Option Addr} {cx : Nat} {AR : Option Addr} {cR : Nat} {R : List Bool} {AP : Option Addr} {cP : Nat} {P : List (List Int)} {W : World} {M : List (List Bool)} (h : DomSt w q gp gx A0 n c0 Ax cx AR cR R AP cP P W M) (t : Int) (h0 : 0 ≤ t) (h1 : t < n) : ∃ ad A2 c2, Ax = some ad ∧ W.cell? (ad.add t.toNat) = some (.slice A2 (rd_L9 M t).length c2) := by
  have hl := h.len
  obtain ⟨ad, A2, c2, e1, hx, _, _⟩ := at_L9 h.C t h0 (by omega)
  exact ⟨ad, A2, c2, e1, hx⟩
theorem add0 (g k : Nat) : (⟨g, 0, none⟩ : Addr).add k = ⟨g, k, none⟩ := by
  by_cases h7 : k = 0
  · rw [h7]; rfl
  · simp [Addr.add, h7]

set_option maxHeartbeats 16000000 in
set_option maxRecDepth 100000 in
theorem impl_Prog_doms.calls (k : Nat) (A0_0 : Option Addr) (c0_0 : Nat) (l0_0 : List S68) (r : List (List Bool)) (w : World) (hr0_0 : Kd.C k68 w A0_0 l0_0.length l0_0) (hc0_0 : l0_0.length ≤ c0_0) (h : impl_Prog_doms.f k l0_0 = some r) :
  Calls Try.prog 85 #[.agg #[.slice A0_0 l0_0.length c0_0]] w fun e w' => ∃ v0_ : Value, e = .returned (v0_) ∧ Kd.S (Kd.slice 4 Kd.bool) 33 w' w.heap.size (fun _ => True) v0_ r ∧ Below w.heap.size w w' := by
  have hu29 := Try.underlying29
  obtain ⟨R, hR, h⟩ := Option.bind_eq_some_iff.mp h
  obtain ⟨P, hP, h⟩ := Option.bind_eq_some_iff.mp h
  by_cases hg : l0_0.length ≤ 1000 ∧ R.length = l0_0.length
  rotate_left
  · rw [if_neg hg] at h
    exact absurd h (by simp)
  rw [if_pos hg] at h
  have HF := Aside0.mk h
  have HRf := Aside0.mk hR
  have HPf := Aside0.mk hP
  have HN := Aside0.mk hg.1
  have HRL := Aside0.mk hg.2
  have HR0 := Aside0.mk hr0_0
  have HC0 := Aside0.mk hc0_0
  have HB := Aside0.mk (Below.refl w.heap.size w)
  clear h hR hP hg hr0_0 hc0_0
  go_enter Try.func85, Try.ntmps85
  try go_wp2_with ((with_reducible refine gate_dst (N := 1) rfl ?_); refine box_event ?hg (N := 1) ?hd (cs := #[.slice A0_0 l0_0.length c0_0]) (t := 29) ?hr ?_; (case hd => rfl); (case hg => rfl); (case hr => first | (go_simp; done) | (go_simp; rfl)); intro gp hg w1 hbox hb; have n0_ := Aside0.mk (below_step HB.out hb); have BP := Aside0.mk hbox; clear HB hb hg hbox; have HB := n0_; clear n0_; have hz0 : w1.cell? ⟨gp, 0, none⟩ = some (.slice A0_0 l0_0.length c0_0) := (blk_cell BP.out 0).trans rfl)
  have n0_ := Aside0.mk (below_drew1 HB.out)
  have n1_ := Aside0.mk (blk_drew BP.out)
  clear HB BP
  have HB := n0_
  have BP := n1_
  clear n0_ n1_
  refine start_ (n := 6) (S := fun w' => w'.cell? ⟨gp, 0, none⟩ = some (.slice A0_0 l0_0.length c0_0)) (ds := []) #[false, false, false, false, false, false] (by kernel_rfl) rfl rfl ((blk_cell BP.out 0).trans rfl) (fun hHeld => ?_)
  clear hz0
  generalize w1.drew = w2 at HB BP hHeld ⊢
  refine take_ (i := 0) (N := some 15) (v := ?_) (a' := ?_) #[true, false, false, false, false, false] rfl rfl (by kernel_rfl) (fun _ _ _ h => h) (Or.inl ⟨by rfl, ?_⟩) hHeld ?_ ?_
  rotate_left
  · rintro w' s0
    go_simp
    with_reducible rfl
  rotate_left
  · simp only [Act.put, List.setIfInBounds_toArray, List.set_cons_zero, List.set_cons_succ, i64_w, i32_w]
    rfl
  refine take_ (i := 2) (N := some 17) (v := ?_) (a' := ?_) #[true, false, true, false, false, false] rfl rfl (by kernel_rfl) (fun _ _ _ h => h) (Or.inl ⟨by rfl, ?_⟩) hHeld ?_ ?_
  rotate_left
  · rintro w' s0
    go_simp
    with_reducible rfl
  rotate_left
  · simp only [Act.put, List.setIfInBounds_toArray, List.set_cons_zero, List.set_cons_succ, i64_w, i32_w]
    rfl
  refine one_ (i := 1) (N := some 16) #[true, true, true, false, false, false] rfl rfl (by kernel_rfl) (by decide) (fun K hK => ?_)
  refine goes_ Try.func65 (by kernel_rfl) rfl #[.agg #[.slice A0_0 l0_0.length c0_0]] (by rfl) rfl rfl (by (try simp only [List.map_toArray, List.map_cons, List.map_nil]); first | done | rfl) ?_
  with_reducible refine (impl_Prog_reach.calls k _ _ l0_0 R _ ?side1 ?side2 HRf.out).mono ?_
  (case side1 => exact Kd.C_below HR0.out HB.out)
  (case side2 => exact HC0.out)
  rintro e w3 ⟨vR, rfl, ho, hb⟩
  refine ⟨_, rfl, ?_⟩
  have n0_ := Aside0.mk (blk_below BP.out hb)
  have n1_ := Aside0.mk (below_step HB.out hb)
  have HRr := Aside0.mk (Kd.R_mono (ok' := fun k => k < w3.heap.size) (Kd.R_bound (Kd.R_lower ho HB.out.size)) (fun k hk => hk.2.2.1))
  clear BP HB hb ho
  have BP := n0_
  have HB := n1_
  clear n0_ n1_
  obtain ⟨AR, cR, eo_⟩ := Kd.R_slice HRr.out
  subst eo_
  refine hK.out _ _ ((blk_cell BP.out 0).trans rfl) (fun hHeld => ?_)
  clear hK K
  refine norm_ (a' := ?_) ?_ ?_
  rotate_left
  · show Act.put _ (some 16) _ = _
    simp only [Act.put, List.setIfInBounds_toArray, List.set_cons_zero, List.set_cons_succ, i64_w, i32_w]
    rfl
  refine one_ (i := 3) (N := some 18) #[true, true, true, true, false, false] rfl rfl (by kernel_rfl) (by decide) (fun K hK => ?_)
  refine goes_ Try.func83 (by kernel_rfl) rfl #[.agg #[.slice A0_0 l0_0.length c0_0]] (by rfl) rfl rfl (by (try simp only [List.map_toArray, List.map_cons, List.map_nil]); first | done | rfl) ?_
  with_reducible refine (impl_Prog_preds.calls k _ _ l0_0 P _ ?side1 ?side2 HPf.out).mono ?_
  (case side1 => exact Kd.C_below HR0.out HB.out)
  (case side2 => exact HC0.out)
  rintro e w4 ⟨vP, rfl, ho, hb⟩
  refine ⟨_, rfl, ?_⟩
  have n0_ := Aside0.mk (blk_below BP.out hb)
  have n1_ := Aside0.mk (below_step HB.out hb)
  have n2_ := Aside0.mk (Kd.R_mono (ok' := fun k => k < w4.heap.size) (Kd.R_below HRr.out hb) (fun k hk => Nat.lt_of_lt_of_le hk hb.size))
  have HPr := Aside0.mk (Kd.S_mono (ok' := fun k => k < w4.heap.size) (Kd.S_bound (Kd.S_lower ho HB.out.size)) (fun k hk => hk.2.2.1))
  clear BP HB HRr hb ho
  have BP := n0_
  have HB := n1_
  have HRr := n2_
  clear n0_ n1_ n2_
  obtain ⟨AP, cP, eo_⟩ := Kd.S_slice HPr.out
  subst eo_
  refine hK.out _ _ ((blk_cell BP.out 0).trans rfl) (fun hHeld => ?_)
  clear hK K
  refine norm_ (a' := ?_) ?_ ?_
  rotate_left
  · show Act.put _ (some 18) _ = _
    simp only [Act.put, List.setIfInBounds_toArray, List.set_cons_zero, List.set_cons_succ, i64_w, i32_w]
    rfl
  refine pure_ (i := 4) (N := some 4) (v := ?_) (a' := ?_) #[true, true, true, true, true, false] rfl rfl (by kernel_rfl) (fun _ _ _ h => h) (Or.inl ⟨by rfl, ?_⟩) ?_ ?_
  rotate_left
  · intro w'
    go_simp
    with_reducible rfl
  rotate_left
  · simp only [Act.put, List.setIfInBounds_toArray, List.set_cons_zero, List.set_cons_succ, i64_w, i32_w]
    rfl
  refine pure_ (i := 5) (N := some 5) (v := ?_) (a' := ?_) #[true, true, true, true, true, true] rfl rfl (by kernel_rfl) (fun _ _ _ h => h) (Or.inl ⟨by rfl, ?_⟩) ?_ ?_
  rotate_left
  · intro w'
    go_simp
    with_reducible rfl
  rotate_left
  · simp only [Act.put, List.setIfInBounds_toArray, List.set_cons_zero, List.set_cons_succ, i64_w, i32_w]
    rfl
  refine done_ (by kernel_rfl) ?_
  have n0_ : (0 ≤ (l0_0.length : Int)) = True := eq_true (by omega)
  go_wp2_with (first | ((with_reducible refine gate_dst (N := 20) rfl ?_); refine Kd.S_make (Kd.slice 4 Kd.bool) (w0 := w4) w4.heap.size 33 rfl (N := 20) rfl 56 _ _ rfl (l0_0.length : Int) rfl rfl Try.underlying56 (.slice none 0 0) 24 infoR rfl (by decide) (by omega) [] (ok := fun k => w4.heap.size ≤ k) (okp := fun k => w4.heap.size ≤ k) ⟨_, rfl, Kd.R_nil _ _ _ _ _⟩ (fun _ hk => hk) (Nat.le_refl _) (by omega) (by have := HN.out; omega) (Below.refl _ _) (Nat.le_refl _) ?_; intro vM w5 ho hb hg_ hnew_; clear hg_ hnew_; have n1_ := Aside0.mk (Kd.S_lower ho HB.out.size); have n2_ := Aside0.mk (blk_below BP.out hb); have n3_ := Aside0.mk (below_step HB.out hb); have n4_ := Aside0.mk (Kd.R_below HRr.out hb); have n5_ := Aside0.mk (Kd.S_below HPr.out hb); have HQ := Aside0.mk HB.out.size; have HQ5 := Aside0.mk hb.size; have HLT := Aside0.mk (blk_lt BP.out); clear BP HB HRr HPr hb ho; have HM := n1_; have BP := n2_; have HB := n3_; have HRr := n4_; have HPr := n5_; clear n1_ n2_ n3_ n4_ n5_) |
    ((with_reducible refine gate_dst (N := 6) rfl ?_); refine box_event ?hg (N := 6) ?hd (cs := #[.slice none 0 0]) (t := 56) ?hr ?_; (case hd => rfl); (case hg => rfl); (case hr => first | (go_simp; done) | (go_simp; rfl)); intro gx hg w6 hbox hb; have GE : Aside0 (w.heap.size ≤ gx) := ⟨by rw [hg]; exact HB.out.size⟩; have NE : Aside0 (gp ≠ gx) := ⟨by rw [hg]; exact Nat.ne_of_lt (blk_lt BP.out)⟩; have NR : Aside0 (w4.heap.size ≤ gx) := ⟨by rw [hg]; exact HQ5.out⟩; have HQ6 := Aside0.mk hb.size; have n1_ := Aside0.mk (Kd.S_below HM.out hb); have n2_ := Aside0.mk (blk_below BP.out hb); have n3_ := Aside0.mk (below_step HB.out hb); have n4_ := Aside0.mk (Kd.R_below HRr.out hb); have n5_ := Aside0.mk (Kd.S_below HPr.out hb); have BX := Aside0.mk hbox; clear HM BP HB HRr HPr hb hbox hg; have HM := n1_; have BP := n2_; have HB := n3_; have HRr := n4_; have HPr := n5_; clear n1_ n2_ n3_ n4_ n5_; have hzx : w6.cell? ⟨gx, 0, none⟩ = some (.slice none 0 0) := (blk_cell BX.out 0).trans rfl; have hfx := blk_frozen BX.out 0; obtain ⟨Ax, cx, eo_⟩ := Kd.S_slice HM.out; rw [List.length_replicate, Int.toNat_natCast] at eo_; subst eo_) |
    ((with_reducible refine gate_store (t := 56) (p := 6) rfl ?_); refine store_event (t := 56) (p := 6) (v := ?vo_w7) (w1 := (w6.setCell ⟨gx, 0, none⟩ (.slice Ax l0_0.length cx))) ?hg ?ho ?hn ?hr ?_; (case ho => rfl); (case hg => rfl); (case hn => rfl); (case hr => first | (go_simp; done) | (go_simp; rfl)); intro w7 hw; have hk1 : Kept w6 w7 (fun k => k = gx) := (by rw [hw]; exact Kept.setCell (S := fun k => k = gx) (Kept.refl _ _) (p := ⟨gx, 0, none⟩) (.inl rfl) _); have HD : Aside0 (DomSt w w4.heap.size gp gx A0_0 l0_0.length c0_0 Ax cx AR cR R AP cP P w7 (List.replicate l0_0.length [])) := ⟨⟨by rw [hw]; exact below_set HB.out GE.out, blk_kept BP.out hk1 NE.out, by rw [hw]; exact blk_put (cs := #[.slice none 0 0]) BX.out 0 _ rfl, HLT.out, GE.out, HQ.out, Nat.le_trans HQ5.out (Nat.le_trans HQ6.out hk1.1), Kd.R_kept HRr.out hk1 (fun k hk e => by have := NR.out; omega), Kd.S_kept HPr.out hk1 (fun k hk e => by have := NR.out; omega), Kd.S_kept (Kd.S_mono (Kd.S_types HM.out BX.out (by decide)) (fun k hk => hk)) hk1 (fun k hk e => hk.2 e) |> fun z => Kd.S_mono z (fun k hk => hk.1)⟩⟩; clear HM BP HB HRr HPr BX GE NE NR HQ HQ5 HQ6 HLT hw hk1 hzx hfx; have hzx : w7.cell? ⟨gx, 0, none⟩ = some (.slice Ax l0_0.length cx) := (blk_cell HD.out.out 0).trans rfl))
  clear n0_
  go_loopg [23] l0_0.length (fun gg v23 wr => ∃ (t : Int) (M : List (List Bool)), v23 = .int .i64 t ∧ Aside0 (0 ≤ t ∧ t ≤ (l0_0.length : Int) ∧ (l0_0.length : Int) - t ≤ gg) ∧ Aside0 (∀ j, j < t.toNat → M[j]? = some (dom.row R l0_0.length j)) ∧ Aside0 (DomSt w w4.heap.size gp gx A0_0 l0_0.length c0_0 Ax cx AR cR R AP cP P wr M))
  case atStart => exact ⟨0, _, rfl, ⟨by omega⟩, ⟨fun j hj => absurd hj (by simp)⟩, HD⟩
  case round =>
    clear HD hzx
    obtain ⟨t, M, rfl, HI, HM, HD⟩ := hrel
    by_cases hlt : t < (l0_0.length : Int)
    · obtain ⟨g0, hA⟩ := HD.out.form (by have := HI.out; omega)
      subst hA
      have c1 : decide (t < (l0_0.length : Int)) = true := decide_eq_true hlt
      have q1 : (t < (l0_0.length : Int)) = True := eq_true hlt
      have q2 : (0 ≤ t) = True := eq_true HI.out.1
      have HLT := Aside0.mk hlt
      clear hlt
      go_wp2
      refine start2_ (Φ := fun W => DomSt w w4.heap.size gp gx A0_0 l0_0.length c0_0 (some ⟨g0, 0, none⟩) cx AR cR R AP cP P W M) (n := 6) (S := fun w' => w'.cell? ⟨gx, 0, none⟩ = some (.slice (some ⟨g0, 0, none⟩) l0_0.length cx)) (ds := [5]) #[false, false, false, false, false, false] (by kernel_rfl) rfl rfl (by repeat (first | exact HD.out | refine DomSt.drewN ?_ _ | refine DomSt.drew ?_)) (fun W hD => (blk_cell hD.out 0).trans rfl) (fun w8 hD hHeld => ?_)
      have n0_ := Aside0.mk hD
      clear hD HD
      have HD := n0_
      clear n0_
      refine take_ (i := 0) (N := some 26) (v := ?_) (a' := ?_) #[true, false, false, false, false, false] rfl rfl (by kernel_rfl) (fun _ _ _ h => h) (Or.inl ⟨by rfl, ?_⟩) hHeld ?_ ?_
      rotate_left
      · rintro w' s0
        go_simp
        with_reducible rfl
      rotate_left
      · simp only [Act.put, List.setIfInBounds_toArray, List.set_cons_zero, List.set_cons_succ, i64_w, i32_w]
        rfl
      refine pure_ (i := 1) (N := some 27) (v := ?_) (a' := ?_) #[true, true, false, false, false, false] rfl rfl (by kernel_rfl) (fun _ _ _ h => h) (Or.inl ⟨by rfl, ?_⟩) ?_ ?_
      rotate_left
      · intro w'
        go_simp
        with_reducible rfl
      rotate_left
      · simp only [Act.put, List.setIfInBounds_toArray, List.set_cons_zero, List.set_cons_succ, i64_w, i32_w]
        rfl
      refine pure_ (i := 2) (N := some 28) (v := ?_) (a' := ?_) #[true, true, true, false, false, false] rfl rfl (by kernel_rfl) (fun _ _ _ h => h) (Or.inl ⟨by rfl, ?_⟩) ?_ ?_
      rotate_left
      · intro w'
        go_simp
        with_reducible rfl
      rotate_left
      · simp only [Act.put, List.setIfInBounds_toArray, List.set_cons_zero, List.set_cons_succ, i64_w, i32_w]
        rfl
      refine one_ (i := 3) (N := some 29) #[true, true, true, true, false, false] rfl rfl (by kernel_rfl) (by decide) (fun K hK => ?_)
      refine Kd.R_make_step Kd.bool (w0 := w8) w8.heap.size 4 (by rfl) (N := 29) rfl 33 _ _ rfl (l0_0.length : Int) rfl rfl Try.underlying33 (.bool false) 1 infoB rfl (by decide) (by omega) false (ok := fun k => w8.heap.size ≤ k) (okp := fun k => w8.heap.size ≤ k) rfl (fun _ hk => hk) (Nat.le_refl _) (by omega) (by have := HN.out; omega) (Below.refl _ _) (Nat.le_refl _) ?_
      intro vN w9 ho hb hg_ hnew_
      clear hg_ hnew_
      rw [Int.toNat_natCast] at ho
      have HV := Aside0.mk (Kd.R_lower ho HD.out.below.size)
      have HQ := Aside0.mk hb
      clear ho hb
      obtain ⟨AN, cN, eo_⟩ := Kd.R_slice HV.out
      rw [List.length_replicate] at eo_
      subst eo_
      refine hK.out _ _ ((blk_cell (blk_below HD.out.out HQ.out) 0).trans rfl) (fun hHeld => ?_)
      clear hK K
      refine norm_ (a' := ?_) ?_ ?_
      rotate_left
      · show Act.put _ (some 29) _ = _
        simp only [Act.put, List.setIfInBounds_toArray, List.set_cons_zero, List.set_cons_succ, i64_w, i32_w]
        rfl
      refine pure_ (i := 4) (N := some 30) (v := ?_) (a' := ?_) #[true, true, true, true, true, false] rfl rfl (by kernel_rfl) (fun _ _ _ h => h) (Or.inl ⟨by rfl, ?_⟩) ?_ ?_
      rotate_left
      · intro w'
        go_simp
        with_reducible rfl
      rotate_left
      · simp only [Act.put, List.setIfInBounds_toArray, List.set_cons_zero, List.set_cons_succ, i64_w, i32_w]
        rfl
      refine last_ (i := 5) (N := none) #[true, true, true, true, true, true] rfl rfl (by kernel_rfl) (by decide) (fun K hK => ?_)
      obtain ⟨⟨v0, hz⟩, hf, hput⟩ := HD.out.putRow HQ.out HV.out t HI.out.1 HLT.out
      refine skip_step (by rfl) (w1 := w9.setCell ⟨g0, t.toNat, none⟩ (.slice AN l0_0.length cN)) (by first | (go_simp; done) | (go_simp; rfl)) ?_
      intro w10 hw
      have n0_ := Aside0.mk (hput w10 hw)
      clear HD HV HQ hz hf hput hw
      have HD := n0_
      clear n0_
      refine hK.out _ _ ?_
      clear hK K
      refine done_ (by kernel_rfl) ?_
      have hzx : w10.cell? ⟨gx, 0, none⟩ = some (.slice (some ⟨g0, 0, none⟩) l0_0.length cx) := (blk_cell HD.out.out 0).trans rfl
      obtain ⟨ad, A2, c2, e1, hx⟩ := HD.out.row t HI.out.1 HLT.out
      cases e1
      rw [add0] at hx
      have hML : t.toNat < M.length := by have h1 := HD.out.len; rw [List.length_set] at h1; have := HI.out; have := HLT.out; omega
      have hX : (rd_L9 (M.set t.toNat (List.replicate l0_0.length false)) t).length = l0_0.length := by
        unfold rd_L9
        rw [List.getD_eq_getElem?_getD, List.getElem?_set_self hML]
        simp
      rw [hX] at hx
      have HML := Aside0.mk hML
      clear hX hML
      go_wp2
      go_loopg [36] l0_0.length (fun gg v36 wr => ∃ (s : Int) (xs : List Bool), v36 = .int .i64 s ∧ Aside0 (0 ≤ s ∧ s ≤ (l0_0.length : Int) ∧ (l0_0.length : Int) - s ≤ gg) ∧ Aside0 (xs.length = l0_0.length ∧ ∀ j, j < s.toNat → xs[j]? = (dom.row R l0_0.length t.toNat)[j]?) ∧ Aside0 (DomSt w w4.heap.size gp gx A0_0 l0_0.length c0_0 (some ⟨g0, 0, none⟩) cx AR cR R AP cP P wr (M.set t.toNat xs)))
      case atStart => exact ⟨0, _, rfl, ⟨by omega⟩, ⟨by simp, fun j hj => absurd hj (by simp)⟩, HD⟩
      case round =>
        clear HD hzx hx
        obtain ⟨s, xs, rfl, HJ, HX, HD⟩ := hrel
        by_cases hls : s < (l0_0.length : Int)
        · have c2' : decide (s < (l0_0.length : Int)) = true := decide_eq_true hls
          have q3 : (s < (l0_0.length : Int)) = True := eq_true hls
          have q4 : (0 ≤ s) = True := eq_true HJ.out.1
          have q5 : (t < (R.length : Int)) = True := eq_true (by rw [HRL.out]; exact HLT.out)
          have q6 : (s < (R.length : Int)) = True := eq_true (by rw [HRL.out]; exact hls)
          have hg : (M.set t.toNat xs).getD t.toNat [] = xs := by
            rw [List.getD_eq_getElem?_getD, List.getElem?_set_self HML.out]
            rfl
          have HP : Aside0 (∀ (gi cap : Nat) (b : Bool) (W W' : World), DomSt w w4.heap.size gp gx A0_0 l0_0.length c0_0 (some ⟨g0, 0, none⟩) cx AR cR R AP cP P W (M.set t.toNat xs) → W' = W.setCell ⟨gi, s.toNat, none⟩ (.bool b) → W.cell? ⟨g0, t.toNat, none⟩ = some (.slice (some ⟨gi, 0, none⟩) l0_0.length cap) → W.cell? ⟨gi, s.toNat, none⟩ = some (.bool (xs.getD s.toNat false)) ∧ W.frozen? ⟨gi, s.toNat, none⟩ = false ∧ DomSt w w4.heap.size gp gx A0_0 l0_0.length c0_0 (some ⟨g0, 0, none⟩) cx AR cR R AP cP P W' (M.set t.toNat (xs.set s.toNat b))) := ⟨fun gi cap b W W' hd hw hc => by
            have h3 := hd.putAt t s HI.out.1 HLT.out HJ.out.1 (by rw [hg]; have := HX.out.1; omega) hc
            rw [hg] at h3
            have h4 := h3.2.2 b W' hw
            rw [List.set_set] at h4
            exact ⟨h3.1, h3.2.1, h4⟩⟩
          have HC : Aside0 (∀ W, DomSt w w4.heap.size gp gx A0_0 l0_0.length c0_0 (some ⟨g0, 0, none⟩) cx AR cR R AP cP P W (M.set t.toNat xs) → ∃ gi' cap', W.cell? ⟨g0, t.toNat, none⟩ = some (.slice (some ⟨gi', 0, none⟩) l0_0.length cap')) := ⟨fun W hd => by
            obtain ⟨gi', cap', hy1, _, _, _⟩ := hd.put t s HI.out.1 HLT.out HJ.out.1 (by rw [hg]; have := HX.out.1; omega)
            rw [hg, HX.out.1] at hy1
            exact ⟨gi', cap', hy1⟩⟩
          clear hg
          have HLS := Aside0.mk hls
          clear hls
          obtain ⟨b1, hb1⟩ : ∃ b, b = rdOf false R t := ⟨_, rfl⟩
          obtain ⟨b2, hb2⟩ : ∃ b, b = rdOf false R s := ⟨_, rfl⟩
          obtain ⟨b3, hb3⟩ : ∃ b, b = decide (0 < t) := ⟨_, rfl⟩
          have hv : (R.getD t.toNat false && (R.getD s.toNat false && (decide (0 < t.toNat) || s.toNat == 0))) = (b1 && (b2 && (b3 || s == 0))) := by
            rw [hb1, hb2, hb3]
            have e3 : decide (0 < t.toNat) = decide (0 < t) := by rw [Bool.eq_iff_iff]; simp
            have e4 : (s.toNat == 0) = (s == 0) := by rw [Bool.eq_iff_iff]; have := HJ.out.1; simp; omega
            rw [e3, e4]
            rfl
          have HVV := Aside0.mk hv
          have HB1 := Aside0.mk hb1
          have HB2 := Aside0.mk hb2
          have d3 : decide (0 < t) = b3 := hb3.symm
          clear hv hb1 hb2 hb3
          refine bsplit b1 (fun e1 => ?_) (fun e1 => bsplit b2 (fun e2 => ?_) (fun e2 => bsplit b3 (fun e3 => ?_) (fun e3 => ?_)))
          · subst e1
            go_wp2
            have hall : ∀ W, DomSt w w4.heap.size gp gx A0_0 l0_0.length c0_0 (some ⟨g0, 0, none⟩) cx AR cR R AP cP P W (M.set t.toNat xs) → ∃ gi cap adR, AR = some adR ∧ W.cell? ⟨gx, 0, none⟩ = some (.slice (some ⟨g0, 0, none⟩) l0_0.length cx) ∧ W.cell? ⟨g0, t.toNat, none⟩ = some (.slice (some ⟨gi, 0, none⟩) l0_0.length cap) ∧ W.cell? (adR.add t.toNat) = some (.bool false) := by
              intro W hd
              obtain ⟨gi', cap', hy⟩ := HC.out W hd
              have hRr := Kd.R_reads' hd.rows
              obtain ⟨ad1, f1, h1⟩ := Kd.at_bool hRr.2.2 t HI.out.1 (by rw [HRL.out]; exact HLT.out)
              obtain ⟨ad2, f2, h2⟩ := Kd.at_bool hRr.2.2 s HJ.out.1 (by rw [HRL.out]; exact HLS.out)
              cases f1
              cases f2
              rw [← HB1.out] at h1
              rw [← HB2.out] at h2
              exact ⟨gi', cap', _, rfl, (blk_cell hd.out 0).trans rfl, hy, h1⟩
            have hPhi : ∃ gi cap adR, AR = some adR ∧ ((DomSt w w4.heap.size gp gx A0_0 l0_0.length c0_0 (some ⟨g0, 0, none⟩) cx AR cR R AP cP P wr.drew (M.set t.toNat xs)) ∧ wr.drew.cell? ⟨gx, 0, none⟩ = some (.slice (some ⟨g0, 0, none⟩) l0_0.length cx) ∧ wr.drew.cell? ⟨g0, t.toNat, none⟩ = some (.slice (some ⟨gi, 0, none⟩) l0_0.length cap) ∧ wr.drew.cell? (adR.add t.toNat) = some (.bool false)) := by
              have hd : DomSt w w4.heap.size gp gx A0_0 l0_0.length c0_0 (some ⟨g0, 0, none⟩) cx AR cR R AP cP P wr.drew (M.set t.toNat xs) := HD.out.drew
              obtain ⟨gi', cap', ad', f', hz⟩ := hall _ hd
              exact ⟨gi', cap', ad', f', hd, hz⟩
            obtain ⟨gi, cap, adR, eR, hPhi⟩ := hPhi
            subst eR
            clear hall
            refine start2_ (Φ := fun W => DomSt w w4.heap.size gp gx A0_0 l0_0.length c0_0 (some ⟨g0, 0, none⟩) cx (some adR) cR R AP cP P W (M.set t.toNat xs) ∧ W.cell? ⟨gx, 0, none⟩ = some (.slice (some ⟨g0, 0, none⟩) l0_0.length cx) ∧ W.cell? ⟨g0, t.toNat, none⟩ = some (.slice (some ⟨gi, 0, none⟩) l0_0.length cap) ∧ W.cell? (adR.add t.toNat) = some (.bool false)) (n := 25) (S := fun w' => w'.cell? ⟨gx, 0, none⟩ = some (.slice (some ⟨g0, 0, none⟩) l0_0.length cx) ∧ w'.cell? ⟨g0, t.toNat, none⟩ = some (.slice (some ⟨gi, 0, none⟩) l0_0.length cap) ∧ w'.cell? (adR.add t.toNat) = some (.bool false)) (ds := [24]) #[false, false, false, false, false, false, false, false, false, false, false, false, false, false, false, false, false, false, false, false, false, false, false, false, false] (by kernel_rfl) rfl rfl hPhi (fun W hD => hD.2) (fun w11 hD hHeld => ?_)
            clear hPhi
            refine take_ (i := 0) (N := some 39) (v := ?_) (a' := ?_) #[true, false, false, false, false, false, false, false, false, false, false, false, false, false, false, false, false, false, false, false, false, false, false, false, false] rfl rfl (by kernel_rfl) (fun _ _ _ h => h) (Or.inl ⟨by rfl, ?_⟩) hHeld ?_ ?_
            rotate_left
            · rintro w' ⟨s0, s1, s2⟩
              go_simp
              with_reducible rfl
            rotate_left
            · simp only [Act.put, List.setIfInBounds_toArray, List.set_cons_zero, List.set_cons_succ, i64_w, i32_w]
              rfl
            refine pure_ (i := 1) (N := some 40) (v := ?_) (a' := ?_) #[true, true, false, false, false, false, false, false, false, false, false, false, false, false, false, false, false, false, false, false, false, false, false, false, false] rfl rfl (by kernel_rfl) (fun _ _ _ h => h) (Or.inl ⟨by rfl, ?_⟩) ?_ ?_
            rotate_left
            · intro w'
              go_simp
              with_reducible rfl
            rotate_left
            · simp only [Act.put, List.setIfInBounds_toArray, List.set_cons_zero, List.set_cons_succ, i64_w, i32_w]
              rfl
            refine pure_ (i := 2) (N := some 41) (v := ?_) (a' := ?_) #[true, true, true, false, false, false, false, false, false, false, false, false, false, false, false, false, false, false, false, false, false, false, false, false, false] rfl rfl (by kernel_rfl) (fun _ _ _ h => h) (Or.inl ⟨by rfl, ?_⟩) ?_ ?_
            rotate_left
            · intro w'
              go_simp
              with_reducible rfl
            rotate_left
            · simp only [Act.put, List.setIfInBounds_toArray, List.set_cons_zero, List.set_cons_succ, i64_w, i32_w]
              rfl
            refine take_ (i := 3) (N := some 42) (v := ?_) (a' := ?_) #[true, true, true, true, false, false, false, false, false, false, false, false, false, false, false, false, false, false, false, false, false, false, false, false, false] rfl rfl (by kernel_rfl) (fun _ _ _ h => h) (Or.inl ⟨by rfl, ?_⟩) hHeld ?_ ?_
            rotate_left
            · rintro w' ⟨s0, s1, s2⟩
              go_simp
              with_reducible rfl
            rotate_left
            · simp only [Act.put, List.setIfInBounds_toArray, List.set_cons_zero, List.set_cons_succ, i64_w, i32_w]
              rfl
            refine pure_ (i := 4) (N := some 43) (v := ?_) (a' := ?_) #[true, true, true, true, true, false, false, false, false, false, false, false, false, false, false, false, false, false, false, false, false, false, false, false, false] rfl rfl (by kernel_rfl) (fun _ _ _ h => h) (Or.inl ⟨by rfl, ?_⟩) ?_ ?_
            rotate_left
            · intro w'
              go_simp
              with_reducible rfl
            rotate_left
            · simp only [Act.put, List.setIfInBounds_toArray, List.set_cons_zero, List.set_cons_succ, i64_w, i32_w]
              rfl
            refine pure_ (i := 5) (N := some 44) (v := ?_) (a' := ?_) #[true, true, true, true, true, true, false, false, false, false, false, false, false, false, false, false, false, false, false, false, false, false, false, false, false] rfl rfl (by kernel_rfl) (fun _ _ _ h => h) (Or.inl ⟨by rfl, ?_⟩) ?_ ?_
            rotate_left
            · intro w'
              go_simp
              with_reducible rfl
            rotate_left
            · simp only [Act.put, List.setIfInBounds_toArray, List.set_cons_zero, List.set_cons_succ, i64_w, i32_w]
              rfl
            refine pure_ (i := 6) (N := some 45) (v := ?_) (a' := ?_) #[true, true, true, true, true, true, true, false, false, false, false, false, false, false, false, false, false, false, false, false, false, false, false, false, false] rfl rfl (by kernel_rfl) (fun _ _ _ h => h) (Or.inl ⟨by rfl, ?_⟩) ?_ ?_
            rotate_left
            · intro w'
              go_simp
              with_reducible rfl
            rotate_left
            · simp only [Act.put, List.setIfInBounds_toArray, List.set_cons_zero, List.set_cons_succ, i64_w, i32_w]
              rfl
            refine pure_ (i := 7) (N := some 46) (v := ?_) (a' := ?_) #[true, true, true, true, true, true, true, true, false, false, false, false, false, false, false, false, false, false, false, false, false, false, false, false, false] rfl rfl (by kernel_rfl) (fun _ _ _ h => h) (Or.inl ⟨by rfl, ?_⟩) ?_ ?_
            rotate_left
            · intro w'
              go_simp
              with_reducible rfl
            rotate_left
            · simp only [Act.put, List.setIfInBounds_toArray, List.set_cons_zero, List.set_cons_succ, i64_w, i32_w]
              rfl
            refine take_ (i := 8) (N := some 47) (v := ?_) (a' := ?_) #[true, true, true, true, true, true, true, true, true, false, false, false, false, false, false, false, false, false, false, false, false, false, false, false, false] rfl rfl (by kernel_rfl) (fun _ _ _ h => h) (Or.inl ⟨by rfl, ?_⟩) hHeld ?_ ?_
            rotate_left
            · rintro w' ⟨s0, s1, s2⟩
              go_simp
              with_reducible rfl
            rotate_left
            · simp only [Act.put, List.setIfInBounds_toArray, List.set_cons_zero, List.set_cons_succ, i64_w, i32_w]
              rfl
            refine pure_ (i := 9) (N := some 48) (v := ?_) (a' := ?_) #[true, true, true, true, true, true, true, true, true, true, false, false, false, false, false, false, false, false, false, false, false, false, false, false, false] rfl rfl (by kernel_rfl) (fun _ _ _ h => h) (Or.inl ⟨by rfl, ?_⟩) ?_ ?_
            rotate_left
            · intro w'
              go_simp
              with_reducible rfl
            rotate_left
            · simp only [Act.put, List.setIfInBounds_toArray, List.set_cons_zero, List.set_cons_succ, i64_w, i32_w]
              rfl
            refine pure_ (i := 10) (N := some 49) (v := undef) (a' := ?_) #[true, true, true, true, true, true, true, true, true, true, true, false, false, false, false, false, false, false, false, false, false, false, false, false, false] rfl rfl (by kernel_rfl) (fun _ _ _ h => h) (Or.inr ⟨by rfl, rfl⟩) ?_ ?_
            rotate_left
            · simp only [Act.put, List.setIfInBounds_toArray, List.set_cons_zero, List.set_cons_succ, i64_w, i32_w]
              rfl
            refine pure_ (i := 11) (N := some 50) (v := undef) (a' := ?_) #[true, true, true, true, true, true, true, true, true, true, true, true, false, false, false, false, false, false, false, false, false, false, false, false, false] rfl rfl (by kernel_rfl) (fun _ _ _ h => h) (Or.inr ⟨by rfl, rfl⟩) ?_ ?_
            rotate_left
            · simp only [Act.put, List.setIfInBounds_toArray, List.set_cons_zero, List.set_cons_succ, i64_w, i32_w]
              rfl
            refine pure_ (i := 12) (N := some 51) (v := undef) (a' := ?_) #[true, true, true, true, true, true, true, true, true, true, true, true, true, false, false, false, false, false, false, false, false, false, false, false, false] rfl rfl (by kernel_rfl) (fun _ _ _ h => h) (Or.inr ⟨by rfl, rfl⟩) ?_ ?_
            rotate_left
            · simp only [Act.put, List.setIfInBounds_toArray, List.set_cons_zero, List.set_cons_succ, i64_w, i32_w]
              rfl
            refine take_ (i := 13) (N := some 52) (v := undef) (a' := ?_) #[true, true, true, true, true, true, true, true, true, true, true, true, true, true, false, false, false, false, false, false, false, false, false, false, false] rfl rfl (by kernel_rfl) (fun _ _ _ h => h) (Or.inr ⟨by rfl, rfl⟩) hHeld ?_ ?_
            rotate_left
            · simp only [Act.put, List.setIfInBounds_toArray, List.set_cons_zero, List.set_cons_succ, i64_w, i32_w]
              rfl
            refine pure_ (i := 14) (N := some 53) (v := ?_) (a' := ?_) #[true, true, true, true, true, true, true, true, true, true, true, true, true, true, true, false, false, false, false, false, false, false, false, false, false] rfl rfl (by kernel_rfl) (fun _ _ _ h => h) (Or.inl ⟨by rfl, ?_⟩) ?_ ?_
            rotate_left
            · intro w'
              go_simp
              with_reducible rfl
            rotate_left
            · simp only [Act.put, List.setIfInBounds_toArray, List.set_cons_zero, List.set_cons_succ, i64_w, i32_w]
              rfl
            refine pure_ (i := 15) (N := some 54) (v := ?_) (a' := ?_) #[true, true, true, true, true, true, true, true, true, true, true, true, true, true, true, true, false, false, false, false, false, false, false, false, false] rfl rfl (by kernel_rfl) (fun _ _ _ h => h) (Or.inl ⟨by rfl, ?_⟩) ?_ ?_
            rotate_left
            · intro w'
              go_simp
              with_reducible rfl
            rotate_left
            · simp only [Act.put, List.setIfInBounds_toArray, List.set_cons_zero, List.set_cons_succ, i64_w, i32_w]
              rfl
            refine pure_ (i := 16) (N := some 55) (v := undef) (a' := ?_) #[true, true, true, true, true, true, true, true, true, true, true, true, true, true, true, true, true, false, false, false, false, false, false, false, false] rfl rfl (by kernel_rfl) (fun _ _ _ h => h) (Or.inr ⟨by rfl, rfl⟩) ?_ ?_
            rotate_left
            · simp only [Act.put, List.setIfInBounds_toArray, List.set_cons_zero, List.set_cons_succ, i64_w, i32_w]
              rfl
            refine pure_ (i := 17) (N := some 56) (v := undef) (a' := ?_) #[true, true, true, true, true, true, true, true, true, true, true, true, true, true, true, true, true, true, false, false, false, false, false, false, false] rfl rfl (by kernel_rfl) (fun _ _ _ h => h) (Or.inr ⟨by rfl, rfl⟩) ?_ ?_
            rotate_left
            · simp only [Act.put, List.setIfInBounds_toArray, List.set_cons_zero, List.set_cons_succ, i64_w, i32_w]
              rfl
            refine pure_ (i := 18) (N := some 57) (v := undef) (a' := ?_) #[true, true, true, true, true, true, true, true, true, true, true, true, true, true, true, true, true, true, true, false, false, false, false, false, false] rfl rfl (by kernel_rfl) (fun _ _ _ h => h) (Or.inr ⟨by rfl, rfl⟩) ?_ ?_
            rotate_left
            · simp only [Act.put, List.setIfInBounds_toArray, List.set_cons_zero, List.set_cons_succ, i64_w, i32_w]
              rfl
            refine pure_ (i := 19) (N := some 58) (v := undef) (a' := ?_) #[true, true, true, true, true, true, true, true, true, true, true, true, true, true, true, true, true, true, true, true, false, false, false, false, false] rfl rfl (by kernel_rfl) (fun _ _ _ h => h) (Or.inr ⟨by rfl, rfl⟩) ?_ ?_
            rotate_left
            · simp only [Act.put, List.setIfInBounds_toArray, List.set_cons_zero, List.set_cons_succ, i64_w, i32_w]
              rfl
            refine pure_ (i := 20) (N := some 59) (v := undef) (a' := ?_) #[true, true, true, true, true, true, true, true, true, true, true, true, true, true, true, true, true, true, true, true, true, false, false, false, false] rfl rfl (by kernel_rfl) (fun _ _ _ h => h) (Or.inr ⟨by rfl, rfl⟩) ?_ ?_
            rotate_left
            · simp only [Act.put, List.setIfInBounds_toArray, List.set_cons_zero, List.set_cons_succ, i64_w, i32_w]
              rfl
            refine pure_ (i := 21) (N := some 60) (v := undef) (a' := ?_) #[true, true, true, true, true, true, true, true, true, true, true, true, true, true, true, true, true, true, true, true, true, true, false, false, false] rfl rfl (by kernel_rfl) (fun _ _ _ h => h) (Or.inr ⟨by rfl, rfl⟩) ?_ ?_
            rotate_left
            · simp only [Act.put, List.setIfInBounds_toArray, List.set_cons_zero, List.set_cons_succ, i64_w, i32_w]
              rfl
            refine pure_ (i := 22) (N := some 61) (v := ?_) (a' := ?_) #[true, true, true, true, true, true, true, true, true, true, true, true, true, true, true, true, true, true, true, true, true, true, true, false, false] rfl rfl (by kernel_rfl) (fun _ _ _ h => h) (Or.inl ⟨by rfl, ?_⟩) ?_ ?_
            rotate_left
            · intro w'
              go_simp
              with_reducible rfl
            rotate_left
            · simp only [Act.put, List.setIfInBounds_toArray, List.set_cons_zero, List.set_cons_succ, i64_w, i32_w]
              rfl
            refine pure_ (i := 23) (N := some 62) (v := ?_) (a' := ?_) #[true, true, true, true, true, true, true, true, true, true, true, true, true, true, true, true, true, true, true, true, true, true, true, true, false] rfl rfl (by kernel_rfl) (fun _ _ _ h => h) (Or.inl ⟨by rfl, ?_⟩) ?_ ?_
            rotate_left
            · intro w'
              go_simp
              with_reducible rfl
            rotate_left
            · simp only [Act.put, List.setIfInBounds_toArray, List.set_cons_zero, List.set_cons_succ, i64_w, i32_w]
              rfl
            refine last_ (i := 24) (N := none) #[true, true, true, true, true, true, true, true, true, true, true, true, true, true, true, true, true, true, true, true, true, true, true, true, true] rfl rfl (by kernel_rfl) (by decide) (fun K hK => ?_)
            obtain ⟨hz, hf, hput⟩ := HP.out gi cap (false) w11 _ hD.1 rfl hD.2.2.1
            refine skip_step (by rfl) (w1 := w11.setCell ⟨gi, s.toNat, none⟩ (.bool (false))) (by first | (go_simp; done) | (go_simp; rfl)) ?_
            intro w12 hw
            have n0_ := Aside0.mk (show DomSt w w4.heap.size gp gx A0_0 l0_0.length c0_0 (some ⟨g0, 0, none⟩) cx (some adR) cR R AP cP P w12 (M.set t.toNat (xs.set s.toNat (false))) by rw [hw]; exact hput)
            clear HD hz hf hput hw
            have HD := n0_
            clear n0_
            refine hK.out _ _ ?_
            clear hK K
            refine done_ (by kernel_rfl) ?_
            go_wp2
            go_roundg (l0_0.length - (s.toNat + 1))
            case measure => have := HJ.out; have := HLS.out; omega
            case rel =>
              have e5 : wrap64 (s + 1) = s + 1 := by have := HJ.out; have := HLS.out; have := HN.out; unfold wrap64; omega
              refine ⟨s + 1, xs.set s.toNat (false), by first | rfl | rw [e5], ⟨by have := HJ.out; have := HLS.out; omega⟩, ⟨by rw [List.length_set]; exact HX.out.1, fun j hj => ?_⟩, HD⟩
              have h9 := dom_row_set R l0_0.length t.toNat s.toNat xs (by have := HJ.out; have := HLS.out; omega) HX.out.1 HX.out.2 j (by have := HJ.out; omega)
              rw [HVV.out] at h9
              exact h9
          · subst e1
            subst e2
            go_wp2
            have hall : ∀ W, DomSt w w4.heap.size gp gx A0_0 l0_0.length c0_0 (some ⟨g0, 0, none⟩) cx AR cR R AP cP P W (M.set t.toNat xs) → ∃ gi cap adR, AR = some adR ∧ W.cell? ⟨gx, 0, none⟩ = some (.slice (some ⟨g0, 0, none⟩) l0_0.length cx) ∧ W.cell? ⟨g0, t.toNat, none⟩ = some (.slice (some ⟨gi, 0, none⟩) l0_0.length cap) ∧ W.cell? (adR.add t.toNat) = some (.bool true) ∧ W.cell? (adR.add s.toNat) = some (.bool false) := by
              intro W hd
              obtain ⟨gi', cap', hy⟩ := HC.out W hd
              have hRr := Kd.R_reads' hd.rows
              obtain ⟨ad1, f1, h1⟩ := Kd.at_bool hRr.2.2 t HI.out.1 (by rw [HRL.out]; exact HLT.out)
              obtain ⟨ad2, f2, h2⟩ := Kd.at_bool hRr.2.2 s HJ.out.1 (by rw [HRL.out]; exact HLS.out)
              cases f1
              cases f2
              rw [← HB1.out] at h1
              rw [← HB2.out] at h2
              exact ⟨gi', cap', _, rfl, (blk_cell hd.out 0).trans rfl, hy, h1, h2⟩
            have hPhi : ∃ gi cap adR, AR = some adR ∧ ((DomSt w w4.heap.size gp gx A0_0 l0_0.length c0_0 (some ⟨g0, 0, none⟩) cx AR cR R AP cP P wr.drew (M.set t.toNat xs)) ∧ wr.drew.cell? ⟨gx, 0, none⟩ = some (.slice (some ⟨g0, 0, none⟩) l0_0.length cx) ∧ wr.drew.cell? ⟨g0, t.toNat, none⟩ = some (.slice (some ⟨gi, 0, none⟩) l0_0.length cap) ∧ wr.drew.cell? (adR.add t.toNat) = some (.bool true) ∧ wr.drew.cell? (adR.add s.toNat) = some (.bool false)) := by
              have hd : DomSt w w4.heap.size gp gx A0_0 l0_0.length c0_0 (some ⟨g0, 0, none⟩) cx AR cR R AP cP P wr.drew (M.set t.toNat xs) := HD.out.drew
              obtain ⟨gi', cap', ad', f', hz⟩ := hall _ hd
              exact ⟨gi', cap', ad', f', hd, hz⟩
            obtain ⟨gi, cap, adR, eR, hPhi⟩ := hPhi
            subst eR
            clear hall
            refine start2_ (Φ := fun W => DomSt w w4.heap.size gp gx A0_0 l0_0.length c0_0 (some ⟨g0, 0, none⟩) cx (some adR) cR R AP cP P W (M.set t.toNat xs) ∧ W.cell? ⟨gx, 0, none⟩ = some (.slice (some ⟨g0, 0, none⟩) l0_0.length cx) ∧ W.cell? ⟨g0, t.toNat, none⟩ = some (.slice (some ⟨gi, 0, none⟩) l0_0.length cap) ∧ W.cell? (adR.add t.toNat) = some (.bool true) ∧ W.cell? (adR.add s.toNat) = some (.bool false)) (n := 25) (S := fun w' => w'.cell? ⟨gx, 0, none⟩ = some (.slice (some ⟨g0, 0, none⟩) l0_0.length cx) ∧ w'.cell? ⟨g0, t.toNat, none⟩ = some (.slice (some ⟨gi, 0, none⟩) l0_0.length cap) ∧ w'.cell? (adR.add t.toNat) = some (.bool true) ∧ w'.cell? (adR.add s.toNat) = some (.bool false)) (ds := [24]) #[false, false, false, false, false, false, false, false, false, false, false, false, false, false, false, false, false, false, false, false, false, false, false, false, false] (by kernel_rfl) rfl rfl hPhi (fun W hD => hD.2) (fun w11 hD hHeld => ?_)
            clear hPhi
            refine take_ (i := 0) (N := some 39) (v := ?_) (a' := ?_) #[true, false, false, false, false, false, false, false, false, false, false, false, false, false, false, false, false, false, false, false, false, false, false, false, false] rfl rfl (by kernel_rfl) (fun _ _ _ h => h) (Or.inl ⟨by rfl, ?_⟩) hHeld ?_ ?_
            rotate_left
            · rintro w' ⟨s0, s1, s2, s3⟩
              go_simp
              with_reducible rfl
            rotate_left
            · simp only [Act.put, List.setIfInBounds_toArray, List.set_cons_zero, List.set_cons_succ, i64_w, i32_w]
              rfl
            refine pure_ (i := 1) (N := some 40) (v := ?_) (a' := ?_) #[true, true, false, false, false, false, false, false, false, false, false, false, false, false, false, false, false, false, false, false, false, false, false, false, false] rfl rfl (by kernel_rfl) (fun _ _ _ h => h) (Or.inl ⟨by rfl, ?_⟩) ?_ ?_
            rotate_left
            · intro w'
              go_simp
              with_reducible rfl
            rotate_left
            · simp only [Act.put, List.setIfInBounds_toArray, List.set_cons_zero, List.set_cons_succ, i64_w, i32_w]
              rfl
            refine pure_ (i := 2) (N := some 41) (v := ?_) (a' := ?_) #[true, true, true, false, false, false, false, false, false, false, false, false, false, false, false, false, false, false, false, false, false, false, false, false, false] rfl rfl (by kernel_rfl) (fun _ _ _ h => h) (Or.inl ⟨by rfl, ?_⟩) ?_ ?_
            rotate_left
            · intro w'
              go_simp
              with_reducible rfl
            rotate_left
            · simp only [Act.put, List.setIfInBounds_toArray, List.set_cons_zero, List.set_cons_succ, i64_w, i32_w]
              rfl
            refine take_ (i := 3) (N := some 42) (v := ?_) (a' := ?_) #[true, true, true, true, false, false, false, false, false, false, false, false, false, false, false, false, false, false, false, false, false, false, false, false, false] rfl rfl (by kernel_rfl) (fun _ _ _ h => h) (Or.inl ⟨by rfl, ?_⟩) hHeld ?_ ?_
            rotate_left
            · rintro w' ⟨s0, s1, s2, s3⟩
              go_simp
              with_reducible rfl
            rotate_left
            · simp only [Act.put, List.setIfInBounds_toArray, List.set_cons_zero, List.set_cons_succ, i64_w, i32_w]
              rfl
            refine pure_ (i := 4) (N := some 43) (v := ?_) (a' := ?_) #[true, true, true, true, true, false, false, false, false, false, false, false, false, false, false, false, false, false, false, false, false, false, false, false, false] rfl rfl (by kernel_rfl) (fun _ _ _ h => h) (Or.inl ⟨by rfl, ?_⟩) ?_ ?_
            rotate_left
            · intro w'
              go_simp
              with_reducible rfl
            rotate_left
            · simp only [Act.put, List.setIfInBounds_toArray, List.set_cons_zero, List.set_cons_succ, i64_w, i32_w]
              rfl
            refine pure_ (i := 5) (N := some 44) (v := ?_) (a' := ?_) #[true, true, true, true, true, true, false, false, false, false, false, false, false, false, false, false, false, false, false, false, false, false, false, false, false] rfl rfl (by kernel_rfl) (fun _ _ _ h => h) (Or.inl ⟨by rfl, ?_⟩) ?_ ?_
            rotate_left
            · intro w'
              go_simp
              with_reducible rfl
            rotate_left
            · simp only [Act.put, List.setIfInBounds_toArray, List.set_cons_zero, List.set_cons_succ, i64_w, i32_w]
              rfl
            refine pure_ (i := 6) (N := some 45) (v := ?_) (a' := ?_) #[true, true, true, true, true, true, true, false, false, false, false, false, false, false, false, false, false, false, false, false, false, false, false, false, false] rfl rfl (by kernel_rfl) (fun _ _ _ h => h) (Or.inl ⟨by rfl, ?_⟩) ?_ ?_
            rotate_left
            · intro w'
              go_simp
              with_reducible rfl
            rotate_left
            · simp only [Act.put, List.setIfInBounds_toArray, List.set_cons_zero, List.set_cons_succ, i64_w, i32_w]
              rfl
            refine pure_ (i := 7) (N := some 46) (v := ?_) (a' := ?_) #[true, true, true, true, true, true, true, true, false, false, false, false, false, false, false, false, false, false, false, false, false, false, false, false, false] rfl rfl (by kernel_rfl) (fun _ _ _ h => h) (Or.inl ⟨by rfl, ?_⟩) ?_ ?_
            rotate_left
            · intro w'
              go_simp
              with_reducible rfl
            rotate_left
            · simp only [Act.put, List.setIfInBounds_toArray, List.set_cons_zero, List.set_cons_succ, i64_w, i32_w]
              rfl
            refine take_ (i := 8) (N := some 47) (v := ?_) (a' := ?_) #[true, true, true, true, true, true, true, true, true, false, false, false, false, false, false, false, false, false, false, false, false, false, false, false, false] rfl rfl (by kernel_rfl) (fun _ _ _ h => h) (Or.inl ⟨by rfl, ?_⟩) hHeld ?_ ?_
            rotate_left
            · rintro w' ⟨s0, s1, s2, s3⟩
              go_simp
              with_reducible rfl
            rotate_left
            · simp only [Act.put, List.setIfInBounds_toArray, List.set_cons_zero, List.set_cons_succ, i64_w, i32_w]
              rfl
            refine pure_ (i := 9) (N := some 48) (v := ?_) (a' := ?_) #[true, true, true, true, true, true, true, true, true, true, false, false, false, false, false, false, false, false, false, false, false, false, false, false, false] rfl rfl (by kernel_rfl) (fun _ _ _ h => h) (Or.inl ⟨by rfl, ?_⟩) ?_ ?_
            rotate_left
            · intro w'
              go_simp
              with_reducible rfl
            rotate_left
            · simp only [Act.put, List.setIfInBounds_toArray, List.set_cons_zero, List.set_cons_succ, i64_w, i32_w]
              rfl
            refine pure_ (i := 10) (N := some 49) (v := ?_) (a' := ?_) #[true, true, true, true, true, true, true, true, true, true, true, false, false, false, false, false, false, false, false, false, false, false, false, false, false] rfl rfl (by kernel_rfl) (fun _ _ _ h => h) (Or.inl ⟨by rfl, ?_⟩) ?_ ?_
            rotate_left
            · intro w'
              go_simp
              with_reducible rfl
            rotate_left
            · simp only [Act.put, List.setIfInBounds_toArray, List.set_cons_zero, List.set_cons_succ, i64_w, i32_w]
              rfl
            refine pure_ (i := 11) (N := some 50) (v := ?_) (a' := ?_) #[true, true, true, true, true, true, true, true, true, true, true, true, false, false, false, false, false, false, false, false, false, false, false, false, false] rfl rfl (by kernel_rfl) (fun _ _ _ h => h) (Or.inl ⟨by rfl, ?_⟩) ?_ ?_
            rotate_left
            · intro w'
              go_simp
              with_reducible rfl
            rotate_left
            · simp only [Act.put, List.setIfInBounds_toArray, List.set_cons_zero, List.set_cons_succ, i64_w, i32_w]
              rfl
            refine pure_ (i := 12) (N := some 51) (v := ?_) (a' := ?_) #[true, true, true, true, true, true, true, true, true, true, true, true, true, false, false, false, false, false, false, false, false, false, false, false, false] rfl rfl (by kernel_rfl) (fun _ _ _ h => h) (Or.inl ⟨by rfl, ?_⟩) ?_ ?_
            rotate_left
            · intro w'
              go_simp
              with_reducible rfl
            rotate_left
            · simp only [Act.put, List.setIfInBounds_toArray, List.set_cons_zero, List.set_cons_succ, i64_w, i32_w]
              rfl
            refine take_ (i := 13) (N := some 52) (v := ?_) (a' := ?_) #[true, true, true, true, true, true, true, true, true, true, true, true, true, true, false, false, false, false, false, false, false, false, false, false, false] rfl rfl (by kernel_rfl) (fun _ _ _ h => h) (Or.inl ⟨by rfl, ?_⟩) hHeld ?_ ?_
            rotate_left
            · rintro w' ⟨s0, s1, s2, s3⟩
              go_simp
              with_reducible rfl
            rotate_left
            · simp only [Act.put, List.setIfInBounds_toArray, List.set_cons_zero, List.set_cons_succ, i64_w, i32_w]
              rfl
            refine pure_ (i := 14) (N := some 53) (v := ?_) (a' := ?_) #[true, true, true, true, true, true, true, true, true, true, true, true, true, true, true, false, false, false, false, false, false, false, false, false, false] rfl rfl (by kernel_rfl) (fun _ _ _ h => h) (Or.inl ⟨by rfl, ?_⟩) ?_ ?_
            rotate_left
            · intro w'
              go_simp
              with_reducible rfl
            rotate_left
            · simp only [Act.put, List.setIfInBounds_toArray, List.set_cons_zero, List.set_cons_succ, i64_w, i32_w]
              rfl
            refine pure_ (i := 15) (N := some 54) (v := ?_) (a' := ?_) #[true, true, true, true, true, true, true, true, true, true, true, true, true, true, true, true, false, false, false, false, false, false, false, false, false] rfl rfl (by kernel_rfl) (fun _ _ _ h => h) (Or.inl ⟨by rfl, ?_⟩) ?_ ?_
            rotate_left
            · intro w'
              go_simp
              with_reducible rfl
            rotate_left
            · simp only [Act.put, List.setIfInBounds_toArray, List.set_cons_zero, List.set_cons_succ, i64_w, i32_w]
              rfl
            refine pure_ (i := 16) (N := some 55) (v := undef) (a' := ?_) #[true, true, true, true, true, true, true, true, true, true, true, true, true, true, true, true, true, false, false, false, false, false, false, false, false] rfl rfl (by kernel_rfl) (fun _ _ _ h => h) (Or.inr ⟨by rfl, rfl⟩) ?_ ?_
            rotate_left
            · simp only [Act.put, List.setIfInBounds_toArray, List.set_cons_zero, List.set_cons_succ, i64_w, i32_w]
              rfl
            refine pure_ (i := 17) (N := some 56) (v := undef) (a' := ?_) #[true, true, true, true, true, true, true, true, true, true, true, true, true, true, true, true, true, true, false, false, false, false, false, false, false] rfl rfl (by kernel_rfl) (fun _ _ _ h => h) (Or.inr ⟨by rfl, rfl⟩) ?_ ?_
            rotate_left
            · simp only [Act.put, List.setIfInBounds_toArray, List.set_cons_zero, List.set_cons_succ, i64_w, i32_w]
              rfl
            refine pure_ (i := 18) (N := some 57) (v := undef) (a' := ?_) #[true, true, true, true, true, true, true, true, true, true, true, true, true, true, true, true, true, true, true, false, false, false, false, false, false] rfl rfl (by kernel_rfl) (fun _ _ _ h => h) (Or.inr ⟨by rfl, rfl⟩) ?_ ?_
            rotate_left
            · simp only [Act.put, List.setIfInBounds_toArray, List.set_cons_zero, List.set_cons_succ, i64_w, i32_w]
              rfl
            refine pure_ (i := 19) (N := some 58) (v := undef) (a' := ?_) #[true, true, true, true, true, true, true, true, true, true, true, true, true, true, true, true, true, true, true, true, false, false, false, false, false] rfl rfl (by kernel_rfl) (fun _ _ _ h => h) (Or.inr ⟨by rfl, rfl⟩) ?_ ?_
            rotate_left
            · simp only [Act.put, List.setIfInBounds_toArray, List.set_cons_zero, List.set_cons_succ, i64_w, i32_w]
              rfl
            refine pure_ (i := 20) (N := some 59) (v := undef) (a' := ?_) #[true, true, true, true, true, true, true, true, true, true, true, true, true, true, true, true, true, true, true, true, true, false, false, false, false] rfl rfl (by kernel_rfl) (fun _ _ _ h => h) (Or.inr ⟨by rfl, rfl⟩) ?_ ?_
            rotate_left
            · simp only [Act.put, List.setIfInBounds_toArray, List.set_cons_zero, List.set_cons_succ, i64_w, i32_w]
              rfl
            refine pure_ (i := 21) (N := some 60) (v := undef) (a' := ?_) #[true, true, true, true, true, true, true, true, true, true, true, true, true, true, true, true, true, true, true, true, true, true, false, false, false] rfl rfl (by kernel_rfl) (fun _ _ _ h => h) (Or.inr ⟨by rfl, rfl⟩) ?_ ?_
            rotate_left
            · simp only [Act.put, List.setIfInBounds_toArray, List.set_cons_zero, List.set_cons_succ, i64_w, i32_w]
              rfl
            refine pure_ (i := 22) (N := some 61) (v := ?_) (a' := ?_) #[true, true, true, true, true, true, true, true, true, true, true, true, true, true, true, true, true, true, true, true, true, true, true, false, false] rfl rfl (by kernel_rfl) (fun _ _ _ h => h) (Or.inl ⟨by rfl, ?_⟩) ?_ ?_
            rotate_left
            · intro w'
              go_simp
              with_reducible rfl
            rotate_left
            · simp only [Act.put, List.setIfInBounds_toArray, List.set_cons_zero, List.set_cons_succ, i64_w, i32_w]
              rfl
            refine pure_ (i := 23) (N := some 62) (v := ?_) (a' := ?_) #[true, true, true, true, true, true, true, true, true, true, true, true, true, true, true, true, true, true, true, true, true, true, true, true, false] rfl rfl (by kernel_rfl) (fun _ _ _ h => h) (Or.inl ⟨by rfl, ?_⟩) ?_ ?_
            rotate_left
            · intro w'
              go_simp
              with_reducible rfl
            rotate_left
            · simp only [Act.put, List.setIfInBounds_toArray, List.set_cons_zero, List.set_cons_succ, i64_w, i32_w]
              rfl
            refine last_ (i := 24) (N := none) #[true, true, true, true, true, true, true, true, true, true, true, true, true, true, true, true, true, true, true, true, true, true, true, true, true] rfl rfl (by kernel_rfl) (by decide) (fun K hK => ?_)
            obtain ⟨hz, hf, hput⟩ := HP.out gi cap (false) w11 _ hD.1 rfl hD.2.2.1
            refine skip_step (by rfl) (w1 := w11.setCell ⟨gi, s.toNat, none⟩ (.bool (false))) (by first | (go_simp; done) | (go_simp; rfl)) ?_
            intro w12 hw
            have n0_ := Aside0.mk (show DomSt w w4.heap.size gp gx A0_0 l0_0.length c0_0 (some ⟨g0, 0, none⟩) cx (some adR) cR R AP cP P w12 (M.set t.toNat (xs.set s.toNat (false))) by rw [hw]; exact hput)
            clear HD hz hf hput hw
            have HD := n0_
            clear n0_
            refine hK.out _ _ ?_
            clear hK K
            refine done_ (by kernel_rfl) ?_
            go_wp2
            go_roundg (l0_0.length - (s.toNat + 1))
            case measure => have := HJ.out; have := HLS.out; omega
            case rel =>
              have e5 : wrap64 (s + 1) = s + 1 := by have := HJ.out; have := HLS.out; have := HN.out; unfold wrap64; omega
              refine ⟨s + 1, xs.set s.toNat (false), by first | rfl | rw [e5], ⟨by have := HJ.out; have := HLS.out; omega⟩, ⟨by rw [List.length_set]; exact HX.out.1, fun j hj => ?_⟩, HD⟩
              have h9 := dom_row_set R l0_0.length t.toNat s.toNat xs (by have := HJ.out; have := HLS.out; omega) HX.out.1 HX.out.2 j (by have := HJ.out; omega)
              rw [HVV.out] at h9
              exact h9
          · subst e1
            subst e2
            subst e3
            go_wp2
            have hall : ∀ W, DomSt w w4.heap.size gp gx A0_0 l0_0.length c0_0 (some ⟨g0, 0, none⟩) cx AR cR R AP cP P W (M.set t.toNat xs) → ∃ gi cap adR, AR = some adR ∧ W.cell? ⟨gx, 0, none⟩ = some (.slice (some ⟨g0, 0, none⟩) l0_0.length cx) ∧ W.cell? ⟨g0, t.toNat, none⟩ = some (.slice (some ⟨gi, 0, none⟩) l0_0.length cap) ∧ W.cell? (adR.add t.toNat) = some (.bool true) ∧ W.cell? (adR.add s.toNat) = some (.bool true) := by
              intro W hd
              obtain ⟨gi', cap', hy⟩ := HC.out W hd
              have hRr := Kd.R_reads' hd.rows
              obtain ⟨ad1, f1, h1⟩ := Kd.at_bool hRr.2.2 t HI.out.1 (by rw [HRL.out]; exact HLT.out)
              obtain ⟨ad2, f2, h2⟩ := Kd.at_bool hRr.2.2 s HJ.out.1 (by rw [HRL.out]; exact HLS.out)
              cases f1
              cases f2
              rw [← HB1.out] at h1
              rw [← HB2.out] at h2
              exact ⟨gi', cap', _, rfl, (blk_cell hd.out 0).trans rfl, hy, h1, h2⟩
            have hPhi : ∃ gi cap adR, AR = some adR ∧ ((DomSt w w4.heap.size gp gx A0_0 l0_0.length c0_0 (some ⟨g0, 0, none⟩) cx AR cR R AP cP P wr.drew (M.set t.toNat xs)) ∧ wr.drew.cell? ⟨gx, 0, none⟩ = some (.slice (some ⟨g0, 0, none⟩) l0_0.length cx) ∧ wr.drew.cell? ⟨g0, t.toNat, none⟩ = some (.slice (some ⟨gi, 0, none⟩) l0_0.length cap) ∧ wr.drew.cell? (adR.add t.toNat) = some (.bool true) ∧ wr.drew.cell? (adR.add s.toNat) = some (.bool true)) := by
              have hd : DomSt w w4.heap.size gp gx A0_0 l0_0.length c0_0 (some ⟨g0, 0, none⟩) cx AR cR R AP cP P wr.drew (M.set t.toNat xs) := HD.out.drew
              obtain ⟨gi', cap', ad', f', hz⟩ := hall _ hd
              exact ⟨gi', cap', ad', f', hd, hz⟩
            obtain ⟨gi, cap, adR, eR, hPhi⟩ := hPhi
            subst eR
            clear hall
            refine start2_ (Φ := fun W => DomSt w w4.heap.size gp gx A0_0 l0_0.length c0_0 (some ⟨g0, 0, none⟩) cx (some adR) cR R AP cP P W (M.set t.toNat xs) ∧ W.cell? ⟨gx, 0, none⟩ = some (.slice (some ⟨g0, 0, none⟩) l0_0.length cx) ∧ W.cell? ⟨g0, t.toNat, none⟩ = some (.slice (some ⟨gi, 0, none⟩) l0_0.length cap) ∧ W.cell? (adR.add t.toNat) = some (.bool true) ∧ W.cell? (adR.add s.toNat) = some (.bool true)) (n := 25) (S := fun w' => w'.cell? ⟨gx, 0, none⟩ = some (.slice (some ⟨g0, 0, none⟩) l0_0.length cx) ∧ w'.cell? ⟨g0, t.toNat, none⟩ = some (.slice (some ⟨gi, 0, none⟩) l0_0.length cap) ∧ w'.cell? (adR.add t.toNat) = some (.bool true) ∧ w'.cell? (adR.add s.toNat) = some (.bool true)) (ds := [24]) #[false, false, false, false, false, false, false, false, false, false, false, false, false, false, false, false, false, false, false, false, false, false, false, false, false] (by kernel_rfl) rfl rfl hPhi (fun W hD => hD.2) (fun w11 hD hHeld => ?_)
            clear hPhi
            refine take_ (i := 0) (N := some 39) (v := ?_) (a' := ?_) #[true, false, false, false, false, false, false, false, false, false, false, false, false, false, false, false, false, false, false, false, false, false, false, false, false] rfl rfl (by kernel_rfl) (fun _ _ _ h => h) (Or.inl ⟨by rfl, ?_⟩) hHeld ?_ ?_
            rotate_left
            · rintro w' ⟨s0, s1, s2, s3⟩
              go_simp
              with_reducible rfl
            rotate_left
            · simp only [Act.put, List.setIfInBounds_toArray, List.set_cons_zero, List.set_cons_succ, i64_w, i32_w]
              rfl
            refine pure_ (i := 1) (N := some 40) (v := ?_) (a' := ?_) #[true, true, false, false, false, false, false, false, false, false, false, false, false, false, false, false, false, false, false, false, false, false, false, false, false] rfl rfl (by kernel_rfl) (fun _ _ _ h => h) (Or.inl ⟨by rfl, ?_⟩) ?_ ?_
            rotate_left
            · intro w'
              go_simp
              with_reducible rfl
            rotate_left
            · simp only [Act.put, List.setIfInBounds_toArray, List.set_cons_zero, List.set_cons_succ, i64_w, i32_w]
              rfl
            refine pure_ (i := 2) (N := some 41) (v := ?_) (a' := ?_) #[true, true, true, false, false, false, false, false, false, false, false, false, false, false, false, false, false, false, false, false, false, false, false, false, false] rfl rfl (by kernel_rfl) (fun _ _ _ h => h) (Or.inl ⟨by rfl, ?_⟩) ?_ ?_
            rotate_left
            · intro w'
              go_simp
              with_reducible rfl
            rotate_left
            · simp only [Act.put, List.setIfInBounds_toArray, List.set_cons_zero, List.set_cons_succ, i64_w, i32_w]
              rfl
            refine take_ (i := 3) (N := some 42) (v := ?_) (a' := ?_) #[true, true, true, true, false, false, false, false, false, false, false, false, false, false, false, false, false, false, false, false, false, false, false, false, false] rfl rfl (by kernel_rfl) (fun _ _ _ h => h) (Or.inl ⟨by rfl, ?_⟩) hHeld ?_ ?_
            rotate_left
            · rintro w' ⟨s0, s1, s2, s3⟩
              go_simp
              with_reducible rfl
            rotate_left
            · simp only [Act.put, List.setIfInBounds_toArray, List.set_cons_zero, List.set_cons_succ, i64_w, i32_w]
              rfl
            refine pure_ (i := 4) (N := some 43) (v := ?_) (a' := ?_) #[true, true, true, true, true, false, false, false, false, false, false, false, false, false, false, false, false, false, false, false, false, false, false, false, false] rfl rfl (by kernel_rfl) (fun _ _ _ h => h) (Or.inl ⟨by rfl, ?_⟩) ?_ ?_
            rotate_left
            · intro w'
              go_simp
              with_reducible rfl
            rotate_left
            · simp only [Act.put, List.setIfInBounds_toArray, List.set_cons_zero, List.set_cons_succ, i64_w, i32_w]
              rfl
            refine pure_ (i := 5) (N := some 44) (v := ?_) (a' := ?_) #[true, true, true, true, true, true, false, false, false, false, false, false, false, false, false, false, false, false, false, false, false, false, false, false, false] rfl rfl (by kernel_rfl) (fun _ _ _ h => h) (Or.inl ⟨by rfl, ?_⟩) ?_ ?_
            rotate_left
            · intro w'
              go_simp
              with_reducible rfl
            rotate_left
            · simp only [Act.put, List.setIfInBounds_toArray, List.set_cons_zero, List.set_cons_succ, i64_w, i32_w]
              rfl
            refine pure_ (i := 6) (N := some 45) (v := ?_) (a' := ?_) #[true, true, true, true, true, true, true, false, false, false, false, false, false, false, false, false, false, false, false, false, false, false, false, false, false] rfl rfl (by kernel_rfl) (fun _ _ _ h => h) (Or.inl ⟨by rfl, ?_⟩) ?_ ?_
            rotate_left
            · intro w'
              go_simp
              with_reducible rfl
            rotate_left
            · simp only [Act.put, List.setIfInBounds_toArray, List.set_cons_zero, List.set_cons_succ, i64_w, i32_w]
              rfl
            refine pure_ (i := 7) (N := some 46) (v := ?_) (a' := ?_) #[true, true, true, true, true, true, true, true, false, false, false, false, false, false, false, false, false, false, false, false, false, false, false, false, false] rfl rfl (by kernel_rfl) (fun _ _ _ h => h) (Or.inl ⟨by rfl, ?_⟩) ?_ ?_
            rotate_left
            · intro w'
              go_simp
              with_reducible rfl
            rotate_left
            · simp only [Act.put, List.setIfInBounds_toArray, List.set_cons_zero, List.set_cons_succ, i64_w, i32_w]
              rfl
            refine take_ (i := 8) (N := some 47) (v := ?_) (a' := ?_) #[true, true, true, true, true, true, true, true, true, false, false, false, false, false, false, false, false, false, false, false, false, false, false, false, false] rfl rfl (by kernel_rfl) (fun _ _ _ h => h) (Or.inl ⟨by rfl, ?_⟩) hHeld ?_ ?_
            rotate_left
            · rintro w' ⟨s0, s1, s2, s3⟩
              go_simp
              with_reducible rfl
            rotate_left
            · simp only [Act.put, List.setIfInBounds_toArray, List.set_cons_zero, List.set_cons_succ, i64_w, i32_w]
              rfl
            refine pure_ (i := 9) (N := some 48) (v := ?_) (a' := ?_) #[true, true, true, true, true, true, true, true, true, true, false, false, false, false, false, false, false, false, false, false, false, false, false, false, false] rfl rfl (by kernel_rfl) (fun _ _ _ h => h) (Or.inl ⟨by rfl, ?_⟩) ?_ ?_
            rotate_left
            · intro w'
              go_simp
              with_reducible rfl
            rotate_left
            · simp only [Act.put, List.setIfInBounds_toArray, List.set_cons_zero, List.set_cons_succ, i64_w, i32_w]
              rfl
            refine pure_ (i := 10) (N := some 49) (v := ?_) (a' := ?_) #[true, true, true, true, true, true, true, true, true, true, true, false, false, false, false, false, false, false, false, false, false, false, false, false, false] rfl rfl (by kernel_rfl) (fun _ _ _ h => h) (Or.inl ⟨by rfl, ?_⟩) ?_ ?_
            rotate_left
            · intro w'
              go_simp
              with_reducible rfl
            rotate_left
            · simp only [Act.put, List.setIfInBounds_toArray, List.set_cons_zero, List.set_cons_succ, i64_w, i32_w]
              rfl
            refine pure_ (i := 11) (N := some 50) (v := ?_) (a' := ?_) #[true, true, true, true, true, true, true, true, true, true, true, true, false, false, false, false, false, false, false, false, false, false, false, false, false] rfl rfl (by kernel_rfl) (fun _ _ _ h => h) (Or.inl ⟨by rfl, ?_⟩) ?_ ?_
            rotate_left
            · intro w'
              go_simp
              with_reducible rfl
            rotate_left
            · simp only [Act.put, List.setIfInBounds_toArray, List.set_cons_zero, List.set_cons_succ, i64_w, i32_w]
              rfl
            refine pure_ (i := 12) (N := some 51) (v := ?_) (a' := ?_) #[true, true, true, true, true, true, true, true, true, true, true, true, true, false, false, false, false, false, false, false, false, false, false, false, false] rfl rfl (by kernel_rfl) (fun _ _ _ h => h) (Or.inl ⟨by rfl, ?_⟩) ?_ ?_
            rotate_left
            · intro w'
              go_simp
              with_reducible rfl
            rotate_left
            · simp only [Act.put, List.setIfInBounds_toArray, List.set_cons_zero, List.set_cons_succ, i64_w, i32_w]
              rfl
            refine take_ (i := 13) (N := some 52) (v := ?_) (a' := ?_) #[true, true, true, true, true, true, true, true, true, true, true, true, true, true, false, false, false, false, false, false, false, false, false, false, false] rfl rfl (by kernel_rfl) (fun _ _ _ h => h) (Or.inl ⟨by rfl, ?_⟩) hHeld ?_ ?_
            rotate_left
            · rintro w' ⟨s0, s1, s2, s3⟩
              go_simp
              with_reducible rfl
            rotate_left
            · simp only [Act.put, List.setIfInBounds_toArray, List.set_cons_zero, List.set_cons_succ, i64_w, i32_w]
              rfl
            refine pure_ (i := 14) (N := some 53) (v := ?_) (a' := ?_) #[true, true, true, true, true, true, true, true, true, true, true, true, true, true, true, false, false, false, false, false, false, false, false, false, false] rfl rfl (by kernel_rfl) (fun _ _ _ h => h) (Or.inl ⟨by rfl, ?_⟩) ?_ ?_
            rotate_left
            · intro w'
              go_simp
              with_reducible rfl
            rotate_left
            · simp only [Act.put, List.setIfInBounds_toArray, List.set_cons_zero, List.set_cons_succ, i64_w, i32_w]
              rfl
            refine pure_ (i := 15) (N := some 54) (v := ?_) (a' := ?_) #[true, true, true, true, true, true, true, true, true, true, true, true, true, true, true, true, false, false, false, false, false, false, false, false, false] rfl rfl (by kernel_rfl) (fun _ _ _ h => h) (Or.inl ⟨by rfl, ?_⟩) ?_ ?_
            rotate_left
            · intro w'
              go_simp
              with_reducible rfl
            rotate_left
            · simp only [Act.put, List.setIfInBounds_toArray, List.set_cons_zero, List.set_cons_succ, i64_w, i32_w]
              rfl
            refine pure_ (i := 16) (N := some 55) (v := ?_) (a' := ?_) #[true, true, true, true, true, true, true, true, true, true, true, true, true, true, true, true, true, false, false, false, false, false, false, false, false] rfl rfl (by kernel_rfl) (fun _ _ _ h => h) (Or.inl ⟨by rfl, ?_⟩) ?_ ?_
            rotate_left
            · intro w'
              go_simp
              with_reducible rfl
            rotate_left
            · simp only [Act.put, List.setIfInBounds_toArray, List.set_cons_zero, List.set_cons_succ, i64_w, i32_w]
              rfl
            refine pure_ (i := 17) (N := some 56) (v := ?_) (a' := ?_) #[true, true, true, true, true, true, true, true, true, true, true, true, true, true, true, true, true, true, false, false, false, false, false, false, false] rfl rfl (by kernel_rfl) (fun _ _ _ h => h) (Or.inl ⟨by rfl, ?_⟩) ?_ ?_
            rotate_left
            · intro w'
              go_simp
              with_reducible rfl
            rotate_left
            · simp only [Act.put, List.setIfInBounds_toArray, List.set_cons_zero, List.set_cons_succ, i64_w, i32_w]
              rfl
            refine pure_ (i := 18) (N := some 57) (v := ?_) (a' := ?_) #[true, true, true, true, true, true, true, true, true, true, true, true, true, true, true, true, true, true, true, false, false, false, false, false, false] rfl rfl (by kernel_rfl) (fun _ _ _ h => h) (Or.inl ⟨by rfl, ?_⟩) ?_ ?_
            rotate_left
            · intro w'
              go_simp
              with_reducible rfl
            rotate_left
            · simp only [Act.put, List.setIfInBounds_toArray, List.set_cons_zero, List.set_cons_succ, i64_w, i32_w]
              rfl
            refine pure_ (i := 19) (N := some 58) (v := ?_) (a' := ?_) #[true, true, true, true, true, true, true, true, true, true, true, true, true, true, true, true, true, true, true, true, false, false, false, false, false] rfl rfl (by kernel_rfl) (fun _ _ _ h => h) (Or.inl ⟨by rfl, ?_⟩) ?_ ?_
            rotate_left
            · intro w'
              go_simp
              with_reducible rfl
            rotate_left
            · simp only [Act.put, List.setIfInBounds_toArray, List.set_cons_zero, List.set_cons_succ, i64_w, i32_w]
              rfl
            refine pure_ (i := 20) (N := some 59) (v := ?_) (a' := ?_) #[true, true, true, true, true, true, true, true, true, true, true, true, true, true, true, true, true, true, true, true, true, false, false, false, false] rfl rfl (by kernel_rfl) (fun _ _ _ h => h) (Or.inl ⟨by rfl, ?_⟩) ?_ ?_
            rotate_left
            · intro w'
              go_simp
              with_reducible rfl
            rotate_left
            · simp only [Act.put, List.setIfInBounds_toArray, List.set_cons_zero, List.set_cons_succ, i64_w, i32_w]
              rfl
            refine pure_ (i := 21) (N := some 60) (v := ?_) (a' := ?_) #[true, true, true, true, true, true, true, true, true, true, true, true, true, true, true, true, true, true, true, true, true, true, false, false, false] rfl rfl (by kernel_rfl) (fun _ _ _ h => h) (Or.inl ⟨by rfl, ?_⟩) ?_ ?_
            rotate_left
            · intro w'
              go_simp
              with_reducible rfl
            rotate_left
            · simp only [Act.put, List.setIfInBounds_toArray, List.set_cons_zero, List.set_cons_succ, i64_w, i32_w]
              rfl
            refine pure_ (i := 22) (N := some 61) (v := ?_) (a' := ?_) #[true, true, true, true, true, true, true, true, true, true, true, true, true, true, true, true, true, true, true, true, true, true, true, false, false] rfl rfl (by kernel_rfl) (fun _ _ _ h => h) (Or.inl ⟨by rfl, ?_⟩) ?_ ?_
            rotate_left
            · intro w'
              go_simp
              with_reducible rfl
            rotate_left
            · simp only [Act.put, List.setIfInBounds_toArray, List.set_cons_zero, List.set_cons_succ, i64_w, i32_w]
              rfl
            refine pure_ (i := 23) (N := some 62) (v := ?_) (a' := ?_) #[true, true, true, true, true, true, true, true, true, true, true, true, true, true, true, true, true, true, true, true, true, true, true, true, false] rfl rfl (by kernel_rfl) (fun _ _ _ h => h) (Or.inl ⟨by rfl, ?_⟩) ?_ ?_
            rotate_left
            · intro w'
              go_simp
              with_reducible rfl
            rotate_left
            · simp only [Act.put, List.setIfInBounds_toArray, List.set_cons_zero, List.set_cons_succ, i64_w, i32_w]
              rfl
            refine last_ (i := 24) (N := none) #[true, true, true, true, true, true, true, true, true, true, true, true, true, true, true, true, true, true, true, true, true, true, true, true, true] rfl rfl (by kernel_rfl) (by decide) (fun K hK => ?_)
            obtain ⟨hz, hf, hput⟩ := HP.out gi cap (s == 0) w11 _ hD.1 rfl hD.2.2.1
            refine skip_step (by rfl) (w1 := w11.setCell ⟨gi, s.toNat, none⟩ (.bool (s == 0))) (by first | (go_simp; done) | (go_simp; rfl)) ?_
            intro w12 hw
            have n0_ := Aside0.mk (show DomSt w w4.heap.size gp gx A0_0 l0_0.length c0_0 (some ⟨g0, 0, none⟩) cx (some adR) cR R AP cP P w12 (M.set t.toNat (xs.set s.toNat (s == 0))) by rw [hw]; exact hput)
            clear HD hz hf hput hw
            have HD := n0_
            clear n0_
            refine hK.out _ _ ?_
            clear hK K
            refine done_ (by kernel_rfl) ?_
            go_wp2
            go_roundg (l0_0.length - (s.toNat + 1))
            case measure => have := HJ.out; have := HLS.out; omega
            case rel =>
              have e5 : wrap64 (s + 1) = s + 1 := by have := HJ.out; have := HLS.out; have := HN.out; unfold wrap64; omega
              refine ⟨s + 1, xs.set s.toNat (s == 0), by first | rfl | rw [e5], ⟨by have := HJ.out; have := HLS.out; omega⟩, ⟨by rw [List.length_set]; exact HX.out.1, fun j hj => ?_⟩, HD⟩
              have h9 := dom_row_set R l0_0.length t.toNat s.toNat xs (by have := HJ.out; have := HLS.out; omega) HX.out.1 HX.out.2 j (by have := HJ.out; omega)
              rw [HVV.out] at h9
              exact h9
          · subst e1
            subst e2
            subst e3
            go_wp2
            have hall : ∀ W, DomSt w w4.heap.size gp gx A0_0 l0_0.length c0_0 (some ⟨g0, 0, none⟩) cx AR cR R AP cP P W (M.set t.toNat xs) → ∃ gi cap adR, AR = some adR ∧ W.cell? ⟨gx, 0, none⟩ = some (.slice (some ⟨g0, 0, none⟩) l0_0.length cx) ∧ W.cell? ⟨g0, t.toNat, none⟩ = some (.slice (some ⟨gi, 0, none⟩) l0_0.length cap) ∧ W.cell? (adR.add t.toNat) = some (.bool true) ∧ W.cell? (adR.add s.toNat) = some (.bool true) := by
              intro W hd
              obtain ⟨gi', cap', hy⟩ := HC.out W hd
              have hRr := Kd.R_reads' hd.rows
              obtain ⟨ad1, f1, h1⟩ := Kd.at_bool hRr.2.2 t HI.out.1 (by rw [HRL.out]; exact HLT.out)
              obtain ⟨ad2, f2, h2⟩ := Kd.at_bool hRr.2.2 s HJ.out.1 (by rw [HRL.out]; exact HLS.out)
              cases f1
              cases f2
              rw [← HB1.out] at h1
              rw [← HB2.out] at h2
              exact ⟨gi', cap', _, rfl, (blk_cell hd.out 0).trans rfl, hy, h1, h2⟩
            have hPhi : ∃ gi cap adR, AR = some adR ∧ ((DomSt w w4.heap.size gp gx A0_0 l0_0.length c0_0 (some ⟨g0, 0, none⟩) cx AR cR R AP cP P wr.drew (M.set t.toNat xs)) ∧ wr.drew.cell? ⟨gx, 0, none⟩ = some (.slice (some ⟨g0, 0, none⟩) l0_0.length cx) ∧ wr.drew.cell? ⟨g0, t.toNat, none⟩ = some (.slice (some ⟨gi, 0, none⟩) l0_0.length cap) ∧ wr.drew.cell? (adR.add t.toNat) = some (.bool true) ∧ wr.drew.cell? (adR.add s.toNat) = some (.bool true)) := by
              have hd : DomSt w w4.heap.size gp gx A0_0 l0_0.length c0_0 (some ⟨g0, 0, none⟩) cx AR cR R AP cP P wr.drew (M.set t.toNat xs) := HD.out.drew
              obtain ⟨gi', cap', ad', f', hz⟩ := hall _ hd
              exact ⟨gi', cap', ad', f', hd, hz⟩
            obtain ⟨gi, cap, adR, eR, hPhi⟩ := hPhi
            subst eR
            clear hall
            refine start2_ (Φ := fun W => DomSt w w4.heap.size gp gx A0_0 l0_0.length c0_0 (some ⟨g0, 0, none⟩) cx (some adR) cR R AP cP P W (M.set t.toNat xs) ∧ W.cell? ⟨gx, 0, none⟩ = some (.slice (some ⟨g0, 0, none⟩) l0_0.length cx) ∧ W.cell? ⟨g0, t.toNat, none⟩ = some (.slice (some ⟨gi, 0, none⟩) l0_0.length cap) ∧ W.cell? (adR.add t.toNat) = some (.bool true) ∧ W.cell? (adR.add s.toNat) = some (.bool true)) (n := 25) (S := fun w' => w'.cell? ⟨gx, 0, none⟩ = some (.slice (some ⟨g0, 0, none⟩) l0_0.length cx) ∧ w'.cell? ⟨g0, t.toNat, none⟩ = some (.slice (some ⟨gi, 0, none⟩) l0_0.length cap) ∧ w'.cell? (adR.add t.toNat) = some (.bool true) ∧ w'.cell? (adR.add s.toNat) = some (.bool true)) (ds := [24]) #[false, false, false, false, false, false, false, false, false, false, false, false, false, false, false, false, false, false, false, false, false, false, false, false, false] (by kernel_rfl) rfl rfl hPhi (fun W hD => hD.2) (fun w11 hD hHeld => ?_)
            clear hPhi
            refine take_ (i := 0) (N := some 39) (v := ?_) (a' := ?_) #[true, false, false, false, false, false, false, false, false, false, false, false, false, false, false, false, false, false, false, false, false, false, false, false, false] rfl rfl (by kernel_rfl) (fun _ _ _ h => h) (Or.inl ⟨by rfl, ?_⟩) hHeld ?_ ?_
            rotate_left
            · rintro w' ⟨s0, s1, s2, s3⟩
              go_simp
              with_reducible rfl
            rotate_left
            · simp only [Act.put, List.setIfInBounds_toArray, List.set_cons_zero, List.set_cons_succ, i64_w, i32_w]
              rfl
            refine pure_ (i := 1) (N := some 40) (v := ?_) (a' := ?_) #[true, true, false, false, false, false, false, false, false, false, false, false, false, false, false, false, false, false, false, false, false, false, false, false, false] rfl rfl (by kernel_rfl) (fun _ _ _ h => h) (Or.inl ⟨by rfl, ?_⟩) ?_ ?_
            rotate_left
            · intro w'
              go_simp
              with_reducible rfl
            rotate_left
            · simp only [Act.put, List.setIfInBounds_toArray, List.set_cons_zero, List.set_cons_succ, i64_w, i32_w]
              rfl
            refine pure_ (i := 2) (N := some 41) (v := ?_) (a' := ?_) #[true, true, true, false, false, false, false, false, false, false, false, false, false, false, false, false, false, false, false, false, false, false, false, false, false] rfl rfl (by kernel_rfl) (fun _ _ _ h => h) (Or.inl ⟨by rfl, ?_⟩) ?_ ?_
            rotate_left
            · intro w'
              go_simp
              with_reducible rfl
            rotate_left
            · simp only [Act.put, List.setIfInBounds_toArray, List.set_cons_zero, List.set_cons_succ, i64_w, i32_w]
              rfl
            refine take_ (i := 3) (N := some 42) (v := ?_) (a' := ?_) #[true, true, true, true, false, false, false, false, false, false, false, false, false, false, false, false, false, false, false, false, false, false, false, false, false] rfl rfl (by kernel_rfl) (fun _ _ _ h => h) (Or.inl ⟨by rfl, ?_⟩) hHeld ?_ ?_
            rotate_left
            · rintro w' ⟨s0, s1, s2, s3⟩
              go_simp
              with_reducible rfl
            rotate_left
            · simp only [Act.put, List.setIfInBounds_toArray, List.set_cons_zero, List.set_cons_succ, i64_w, i32_w]
              rfl
            refine pure_ (i := 4) (N := some 43) (v := ?_) (a' := ?_) #[true, true, true, true, true, false, false, false, false, false, false, false, false, false, false, false, false, false, false, false, false, false, false, false, false] rfl rfl (by kernel_rfl) (fun _ _ _ h => h) (Or.inl ⟨by rfl, ?_⟩) ?_ ?_
            rotate_left
            · intro w'
              go_simp
              with_reducible rfl
            rotate_left
            · simp only [Act.put, List.setIfInBounds_toArray, List.set_cons_zero, List.set_cons_succ, i64_w, i32_w]
              rfl
            refine pure_ (i := 5) (N := some 44) (v := ?_) (a' := ?_) #[true, true, true, true, true, true, false, false, false, false, false, false, false, false, false, false, false, false, false, false, false, false, false, false, false] rfl rfl (by kernel_rfl) (fun _ _ _ h => h) (Or.inl ⟨by rfl, ?_⟩) ?_ ?_
            rotate_left
            · intro w'
              go_simp
              with_reducible rfl
            rotate_left
            · simp only [Act.put, List.setIfInBounds_toArray, List.set_cons_zero, List.set_cons_succ, i64_w, i32_w]
              rfl
            refine pure_ (i := 6) (N := some 45) (v := ?_) (a' := ?_) #[true, true, true, true, true, true, true, false, false, false, false, false, false, false, false, false, false, false, false, false, false, false, false, false, false] rfl rfl (by kernel_rfl) (fun _ _ _ h => h) (Or.inl ⟨by rfl, ?_⟩) ?_ ?_
            rotate_left
            · intro w'
              go_simp
              with_reducible rfl
            rotate_left
            · simp only [Act.put, List.setIfInBounds_toArray, List.set_cons_zero, List.set_cons_succ, i64_w, i32_w]
              rfl
            refine pure_ (i := 7) (N := some 46) (v := ?_) (a' := ?_) #[true, true, true, true, true, true, true, true, false, false, false, false, false, false, false, false, false, false, false, false, false, false, false, false, false] rfl rfl (by kernel_rfl) (fun _ _ _ h => h) (Or.inl ⟨by rfl, ?_⟩) ?_ ?_
            rotate_left
            · intro w'
              go_simp
              with_reducible rfl
            rotate_left
            · simp only [Act.put, List.setIfInBounds_toArray, List.set_cons_zero, List.set_cons_succ, i64_w, i32_w]
              rfl
            refine take_ (i := 8) (N := some 47) (v := ?_) (a' := ?_) #[true, true, true, true, true, true, true, true, true, false, false, false, false, false, false, false, false, false, false, false, false, false, false, false, false] rfl rfl (by kernel_rfl) (fun _ _ _ h => h) (Or.inl ⟨by rfl, ?_⟩) hHeld ?_ ?_
            rotate_left
            · rintro w' ⟨s0, s1, s2, s3⟩
              go_simp
              with_reducible rfl
            rotate_left
            · simp only [Act.put, List.setIfInBounds_toArray, List.set_cons_zero, List.set_cons_succ, i64_w, i32_w]
              rfl
            refine pure_ (i := 9) (N := some 48) (v := ?_) (a' := ?_) #[true, true, true, true, true, true, true, true, true, true, false, false, false, false, false, false, false, false, false, false, false, false, false, false, false] rfl rfl (by kernel_rfl) (fun _ _ _ h => h) (Or.inl ⟨by rfl, ?_⟩) ?_ ?_
            rotate_left
            · intro w'
              go_simp
              with_reducible rfl
            rotate_left
            · simp only [Act.put, List.setIfInBounds_toArray, List.set_cons_zero, List.set_cons_succ, i64_w, i32_w]
              rfl
            refine pure_ (i := 10) (N := some 49) (v := ?_) (a' := ?_) #[true, true, true, true, true, true, true, true, true, true, true, false, false, false, false, false, false, false, false, false, false, false, false, false, false] rfl rfl (by kernel_rfl) (fun _ _ _ h => h) (Or.inl ⟨by rfl, ?_⟩) ?_ ?_
            rotate_left
            · intro w'
              go_simp
              with_reducible rfl
            rotate_left
            · simp only [Act.put, List.setIfInBounds_toArray, List.set_cons_zero, List.set_cons_succ, i64_w, i32_w]
              rfl
            refine pure_ (i := 11) (N := some 50) (v := ?_) (a' := ?_) #[true, true, true, true, true, true, true, true, true, true, true, true, false, false, false, false, false, false, false, false, false, false, false, false, false] rfl rfl (by kernel_rfl) (fun _ _ _ h => h) (Or.inl ⟨by rfl, ?_⟩) ?_ ?_
            rotate_left
            · intro w'
              go_simp
              with_reducible rfl
            rotate_left
            · simp only [Act.put, List.setIfInBounds_toArray, List.set_cons_zero, List.set_cons_succ, i64_w, i32_w]
              rfl
            refine pure_ (i := 12) (N := some 51) (v := ?_) (a' := ?_) #[true, true, true, true, true, true, true, true, true, true, true, true, true, false, false, false, false, false, false, false, false, false, false, false, false] rfl rfl (by kernel_rfl) (fun _ _ _ h => h) (Or.inl ⟨by rfl, ?_⟩) ?_ ?_
            rotate_left
            · intro w'
              go_simp
              with_reducible rfl
            rotate_left
            · simp only [Act.put, List.setIfInBounds_toArray, List.set_cons_zero, List.set_cons_succ, i64_w, i32_w]
              rfl
            refine take_ (i := 13) (N := some 52) (v := ?_) (a' := ?_) #[true, true, true, true, true, true, true, true, true, true, true, true, true, true, false, false, false, false, false, false, false, false, false, false, false] rfl rfl (by kernel_rfl) (fun _ _ _ h => h) (Or.inl ⟨by rfl, ?_⟩) hHeld ?_ ?_
            rotate_left
            · rintro w' ⟨s0, s1, s2, s3⟩
              go_simp
              with_reducible rfl
            rotate_left
            · simp only [Act.put, List.setIfInBounds_toArray, List.set_cons_zero, List.set_cons_succ, i64_w, i32_w]
              rfl
            refine pure_ (i := 14) (N := some 53) (v := ?_) (a' := ?_) #[true, true, true, true, true, true, true, true, true, true, true, true, true, true, true, false, false, false, false, false, false, false, false, false, false] rfl rfl (by kernel_rfl) (fun _ _ _ h => h) (Or.inl ⟨by rfl, ?_⟩) ?_ ?_
            rotate_left
            · intro w'
              go_simp
              with_reducible rfl
            rotate_left
            · simp only [Act.put, List.setIfInBounds_toArray, List.set_cons_zero, List.set_cons_succ, i64_w, i32_w]
              rfl
            refine pure_ (i := 15) (N := some 54) (v := ?_) (a' := ?_) #[true, true, true, true, true, true, true, true, true, true, true, true, true, true, true, true, false, false, false, false, false, false, false, false, false] rfl rfl (by kernel_rfl) (fun _ _ _ h => h) (Or.inl ⟨by rfl, ?_⟩) ?_ ?_
            rotate_left
            · intro w'
              go_simp
              with_reducible rfl
            rotate_left
            · simp only [Act.put, List.setIfInBounds_toArray, List.set_cons_zero, List.set_cons_succ, i64_w, i32_w]
              rfl
            refine pure_ (i := 16) (N := some 55) (v := ?_) (a' := ?_) #[true, true, true, true, true, true, true, true, true, true, true, true, true, true, true, true, true, false, false, false, false, false, false, false, false] rfl rfl (by kernel_rfl) (fun _ _ _ h => h) (Or.inl ⟨by rfl, ?_⟩) ?_ ?_
            rotate_left
            · intro w'
              go_simp
              with_reducible rfl
            rotate_left
            · simp only [Act.put, List.setIfInBounds_toArray, List.set_cons_zero, List.set_cons_succ, i64_w, i32_w]
              rfl
            refine pure_ (i := 17) (N := some 56) (v := ?_) (a' := ?_) #[true, true, true, true, true, true, true, true, true, true, true, true, true, true, true, true, true, true, false, false, false, false, false, false, false] rfl rfl (by kernel_rfl) (fun _ _ _ h => h) (Or.inl ⟨by rfl, ?_⟩) ?_ ?_
            rotate_left
            · intro w'
              go_simp
              with_reducible rfl
            rotate_left
            · simp only [Act.put, List.setIfInBounds_toArray, List.set_cons_zero, List.set_cons_succ, i64_w, i32_w]
              rfl
            refine pure_ (i := 18) (N := some 57) (v := ?_) (a' := ?_) #[true, true, true, true, true, true, true, true, true, true, true, true, true, true, true, true, true, true, true, false, false, false, false, false, false] rfl rfl (by kernel_rfl) (fun _ _ _ h => h) (Or.inl ⟨by rfl, ?_⟩) ?_ ?_
            rotate_left
            · intro w'
              go_simp
              with_reducible rfl
            rotate_left
            · simp only [Act.put, List.setIfInBounds_toArray, List.set_cons_zero, List.set_cons_succ, i64_w, i32_w]
              rfl
            refine pure_ (i := 19) (N := some 58) (v := undef) (a' := ?_) #[true, true, true, true, true, true, true, true, true, true, true, true, true, true, true, true, true, true, true, true, false, false, false, false, false] rfl rfl (by kernel_rfl) (fun _ _ _ h => h) (Or.inr ⟨by rfl, rfl⟩) ?_ ?_
            rotate_left
            · simp only [Act.put, List.setIfInBounds_toArray, List.set_cons_zero, List.set_cons_succ, i64_w, i32_w]
              rfl
            refine pure_ (i := 20) (N := some 59) (v := undef) (a' := ?_) #[true, true, true, true, true, true, true, true, true, true, true, true, true, true, true, true, true, true, true, true, true, false, false, false, false] rfl rfl (by kernel_rfl) (fun _ _ _ h => h) (Or.inr ⟨by rfl, rfl⟩) ?_ ?_
            rotate_left
            · simp only [Act.put, List.setIfInBounds_toArray, List.set_cons_zero, List.set_cons_succ, i64_w, i32_w]
              rfl
            refine pure_ (i := 21) (N := some 60) (v := ?_) (a' := ?_) #[true, true, true, true, true, true, true, true, true, true, true, true, true, true, true, true, true, true, true, true, true, true, false, false, false] rfl rfl (by kernel_rfl) (fun _ _ _ h => h) (Or.inl ⟨by rfl, ?_⟩) ?_ ?_
            rotate_left
            · intro w'
              go_simp
              with_reducible rfl
            rotate_left
            · simp only [Act.put, List.setIfInBounds_toArray, List.set_cons_zero, List.set_cons_succ, i64_w, i32_w]
              rfl
            refine pure_ (i := 22) (N := some 61) (v := ?_) (a' := ?_) #[true, true, true, true, true, true, true, true, true, true, true, true, true, true, true, true, true, true, true, true, true, true, true, false, false] rfl rfl (by kernel_rfl) (fun _ _ _ h => h) (Or.inl ⟨by rfl, ?_⟩) ?_ ?_
            rotate_left
            · intro w'
              go_simp
              with_reducible rfl
            rotate_left
            · simp only [Act.put, List.setIfInBounds_toArray, List.set_cons_zero, List.set_cons_succ, i64_w, i32_w]
              rfl
            refine pure_ (i := 23) (N := some 62) (v := ?_) (a' := ?_) #[true, true, true, true, true, true, true, true, true, true, true, true, true, true, true, true, true, true, true, true, true, true, true, true, false] rfl rfl (by kernel_rfl) (fun _ _ _ h => h) (Or.inl ⟨by rfl, ?_⟩) ?_ ?_
            rotate_left
            · intro w'
              go_simp
              with_reducible rfl
            rotate_left
            · simp only [Act.put, List.setIfInBounds_toArray, List.set_cons_zero, List.set_cons_succ, i64_w, i32_w]
              rfl
            refine last_ (i := 24) (N := none) #[true, true, true, true, true, true, true, true, true, true, true, true, true, true, true, true, true, true, true, true, true, true, true, true, true] rfl rfl (by kernel_rfl) (by decide) (fun K hK => ?_)
            obtain ⟨hz, hf, hput⟩ := HP.out gi cap (true) w11 _ hD.1 rfl hD.2.2.1
            refine skip_step (by rfl) (w1 := w11.setCell ⟨gi, s.toNat, none⟩ (.bool (true))) (by first | (go_simp; done) | (go_simp; rfl)) ?_
            intro w12 hw
            have n0_ := Aside0.mk (show DomSt w w4.heap.size gp gx A0_0 l0_0.length c0_0 (some ⟨g0, 0, none⟩) cx (some adR) cR R AP cP P w12 (M.set t.toNat (xs.set s.toNat (true))) by rw [hw]; exact hput)
            clear HD hz hf hput hw
            have HD := n0_
            clear n0_
            refine hK.out _ _ ?_
            clear hK K
            refine done_ (by kernel_rfl) ?_
            go_wp2
            go_roundg (l0_0.length - (s.toNat + 1))
            case measure => have := HJ.out; have := HLS.out; omega
            case rel =>
              have e5 : wrap64 (s + 1) = s + 1 := by have := HJ.out; have := HLS.out; have := HN.out; unfold wrap64; omega
              refine ⟨s + 1, xs.set s.toNat (true), by first | rfl | rw [e5], ⟨by have := HJ.out; have := HLS.out; omega⟩, ⟨by rw [List.length_set]; exact HX.out.1, fun j hj => ?_⟩, HD⟩
              have h9 := dom_row_set R l0_0.length t.toNat s.toNat xs (by have := HJ.out; have := HLS.out; omega) HX.out.1 HX.out.2 j (by have := HJ.out; omega)
              rw [HVV.out] at h9
              exact h9
        · have c2' : decide (s < (l0_0.length : Int)) = false := decide_eq_false hls
          have HLS := Aside0.mk hls
          clear hls
          go_wp2
          go_roundg (l0_0.length - (t.toNat + 1))
          case measure => have := HI.out; have := HLT.out; omega
          case rel =>
            have e5 : wrap64 (t + 1) = t + 1 := by have := HI.out; have := HLT.out; have := HN.out; unfold wrap64; omega
            refine ⟨t + 1, _, by first | rfl | rw [e5], ⟨by have := HI.out; have := HLT.out; omega⟩, ⟨fun j hj => ?_⟩, HD⟩
            have hxs := row_done R l0_0.length t.toNat xs HX.out.1 (fun j hj => HX.out.2 j (by have := HJ.out; have := HLS.out; omega))
            by_cases ej : j = t.toNat
            · subst ej
              rw [List.getElem?_set_self HML.out, hxs]
            · rw [List.getElem?_set_ne (by omega)]
              exact HM.out j (by have := HI.out; omega)
    · have c1 : decide (t < (l0_0.length : Int)) = false := decide_eq_false hlt
      have hMi : M = dom.init R l0_0.length := init_done R l0_0.length M HD.out.len.symm (fun j hj => HM.out j (by have := HI.out; omega))
      subst hMi
      clear hlt HI HM
      have hzx : wr.cell? ⟨gx, 0, none⟩ = some (.slice Ax l0_0.length cx) := (blk_cell HD.out.out 0).trans rfl
      go_wp2
      go_loopg [9] k (fun kq v9 wr => ∃ (c : Bool) (M : List (List Bool)), v9 = .bool c ∧ Aside0 (impl_Prog_doms.l2 kq M P c (l0_0.length : Int) = some r) ∧ Aside0 (kq ≤ k) ∧ Aside0 (DomSt w w4.heap.size gp gx A0_0 l0_0.length c0_0 Ax cx AR cR R AP cP P wr M))
      case atStart => exact ⟨true, _, rfl, HF, ⟨Nat.le_refl _⟩, HD⟩
      case round =>
        clear HD HF hzx
        obtain ⟨c, M, rfl, HA, HK1, HD⟩ := hrel
        cases gk with
        | zero => exact absurd HA.out (by simp [impl_Prog_doms.l2])
        | succ k1 =>
          have H := HA.out
          clear HA
          simp only [impl_Prog_doms.l2] at H
          cases c with
          | false =>
            have H1 : M = r := by simpa using H
            subst H1
            clear H
            have hzx : wr.cell? ⟨gx, 0, none⟩ = some (.slice Ax l0_0.length cx) := (blk_cell HD.out.out 0).trans rfl
            have HL := Aside0.mk HD.out.len
            go_wp2
            go_ret
            exact ⟨_, rfl, Kd.S_mono HD.out.mat (fun _ _ => trivial), HD.out.below⟩
          | true =>
            rw [if_pos rfl] at H
            have HA := Aside0.mk H
            clear H
            go_wp2
            go_loopg [9, 10] k1 (fun kq v9 v10 wr => ∃ (c : Bool) (t : Int) (M : List (List Bool)), v9 = .bool c ∧ v10 = .int .i64 t ∧ Aside0 (impl_Prog_doms.l3 kq M P c t (l0_0.length : Int) = some r) ∧ Aside0 (kq ≤ k1) ∧ Aside0 (DomSt w w4.heap.size gp gx A0_0 l0_0.length c0_0 Ax cx AR cR R AP cP P wr M))
            case atStart => exact ⟨false, 1, M, rfl, rfl, HA, ⟨Nat.le_refl _⟩, HD⟩
            case round =>
              clear HD HA
              obtain ⟨c, t, M, rfl, rfl, HA, HK2, HD⟩ := hrel
              cases gk with
              | zero => exact absurd HA.out (by simp [impl_Prog_doms.l3])
              | succ k2 =>
                have H := HA.out
                clear HA
                simp only [impl_Prog_doms.l3] at H
                by_cases c3 : t < (l0_0.length : Int)
                · rw [if_pos c3] at H
                  have c3b : decide (t < (l0_0.length : Int)) = true := decide_eq_true c3
                  have HA := Aside0.mk H
                  have HTL := Aside0.mk c3
                  clear H c3
                  go_wp2
                  go_loopg [9, 72] k2 (fun kq v9 v72 wr => ∃ (c : Bool) (s : Int) (M : List (List Bool)), v9 = .bool c ∧ v72 = .int .i64 s ∧ Aside0 (impl_Prog_doms.l4 kq M P c t s (l0_0.length : Int) = some r) ∧ Aside0 (kq ≤ k2) ∧ Aside0 (DomSt w w4.heap.size gp gx A0_0 l0_0.length c0_0 Ax cx AR cR R AP cP P wr M))
                  case atStart => exact ⟨c, 0, M, rfl, rfl, HA, ⟨Nat.le_refl _⟩, HD⟩
                  case round =>
                    clear HD HA
                    obtain ⟨c, s, M, rfl, rfl, HA, HK3, HD⟩ := hrel
                    cases gk with
                    | zero => exact absurd HA.out (by simp [impl_Prog_doms.l4])
                    | succ k3 =>
                      have H := HA.out
                      clear HA
                      simp only [impl_Prog_doms.l4] at H
                      by_cases c4 : s < (l0_0.length : Int)
                      · rw [if_pos c4] at H
                        have c4b : decide (s < (l0_0.length : Int)) = true := decide_eq_true c4
                        by_cases c5 : 0 ≤ t
                        rotate_left
                        · rw [if_neg c5] at H
                          exact absurd H (by simp)
                        rw [if_pos c5] at H
                        by_cases c6 : t < (M.length : Int)
                        rotate_left
                        · rw [if_neg c6] at H
                          exact absurd H (by simp)
                        rw [if_pos c6] at H
                        by_cases c7 : 0 ≤ s
                        rotate_left
                        · rw [if_neg c7] at H
                          exact absurd H (by simp)
                        rw [if_pos c7] at H
                        by_cases c8 : s < ((rd_L9 M t).length : Int)
                        rotate_left
                        · rw [if_neg c8] at H
                          exact absurd H (by simp)
                        rw [if_pos c8] at H
                        obtain ⟨g0, hA⟩ := HD.out.form (by have := HTL.out; omega)
                        subst hA
                        have HC5 := Aside0.mk c5
                        have HC7 := Aside0.mk c7
                        have HC8 := Aside0.mk c8
                        have q1 : (0 ≤ t) = True := eq_true c5
                        have q2 : (t < (l0_0.length : Int)) = True := eq_true HTL.out
                        have q3 : (0 ≤ s) = True := eq_true c7
                        have q4 : (s < ((rd_L9 M t).length : Int)) = True := eq_true c8
                        clear c4 c5 c6 c7 c8
                        obtain ⟨b, hb⟩ : ∃ b, b = rdOf false (rd_L9 M t) s := ⟨_, rfl⟩
                        rw [← hb] at H
                        have HBV := Aside0.mk hb
                        clear hb
                        refine bsplit b (fun e1 => ?_) (fun e1 => ?_)
                        · subst e1
                          have H1 : impl_Prog_doms.l4 k3 M P c t (wrap64 (s + 1)) (l0_0.length : Int) = some r := by simpa using H
                          clear H
                          have HA := Aside0.mk H1
                          clear H1
                          go_wp2_with (first | ((with_reducible refine gate_dst (N := 11) rfl ?_); refine box_event ?hg (N := 11) ?hd (cs := #[.int .i64 0]) (t := 3) ?hr ?_; (case hd => rfl); (case hg => rfl); (case hr => first | (go_simp; done) | (go_simp; rfl)); intro gs hg w13 hbox hb; have GS : Aside0 (w.heap.size ≤ gs) := ⟨by rw [hg]; exact HD.out.below.size⟩; have NS : Aside0 (w4.heap.size ≤ gs) := ⟨by rw [hg]; exact HD.out.qle⟩; have n1_ := Aside0.mk (HD.out.step hb); have BS := Aside0.mk hbox; clear HD hb hbox hg; have HD := n1_; clear n1_; have hzs : w13.cell? ⟨gs, 0, none⟩ = some (.int .i64 0) := (blk_cell BS.out 0).trans rfl; have hfs := blk_frozen BS.out 0) |
                          ((with_reducible refine gate_store (t := 3) (p := 11) rfl ?_); refine store_event (t := 3) (p := 11) (v := ?vo_w14) (w1 := (w13.setCell ⟨gs, 0, none⟩ (.int .i64 s))) ?hg ?ho ?hn ?hr ?_; (case ho => rfl); (case hg => rfl); (case hn => rfl); (case hr => first | (go_simp; done) | (go_simp; rfl)); intro w14 hw; have n1_ := Aside0.mk (HD.out.putBox BS.out (by decide) GS.out NS.out hw); have n2_ := Aside0.mk (show w14.heap[gs]? = some (.cells #[.int .i64 s] 3 (0, 0)) by rw [hw]; exact blk_put (cs := #[.int .i64 0]) BS.out 0 _ rfl); clear HD BS hw hzs hfs; have HD := n1_; have BS := n2_; clear n1_ n2_; have hzx : w14.cell? ⟨gx, 0, none⟩ = some (.slice (some ⟨g0, 0, none⟩) l0_0.length cx) := (blk_cell HD.out.out 0).trans rfl; have hzs : w14.cell? ⟨gs, 0, none⟩ = some (.int .i64 s) := (blk_cell BS.out 0).trans rfl; obtain ⟨gi, cap, hx1, hx2, hf_, _⟩ := HD.out.put t s HC5.out HTL.out HC7.out HC8.out; rw [show (M.getD t.toNat []).getD s.toNat false = rdOf false (rd_L9 M t) s from rfl, ← HBV.out] at hx2; replace hx1 : w14.cell? ⟨g0, t.toNat, none⟩ = some (.slice (some ⟨gi, 0, none⟩) (rd_L9 M t).length cap) := hx1))
                          repeat (go_quiet (fail); try go_wp2)
                          go_roundg k3
                          case measure => have := HK1.out; have := HK2.out; have := HK3.out; omega
                          case rel => exact ⟨c, wrap64 (s + 1), M, rfl, rfl, HA, ⟨by have := HK3.out; omega⟩, ⟨by repeat (first | exact HD.out | refine DomSt.drewN ?_ _ | refine DomSt.drew ?_)⟩⟩
                        · subst e1
                          rw [if_pos rfl] at H
                          by_cases est : s = t
                          · rw [if_pos est] at H
                            have es1 : (s != t) = false := by rw [est]; simp
                            have HA := Aside0.mk H
                            clear H est
                            go_wp2_with (first | ((with_reducible refine gate_dst (N := 11) rfl ?_); refine box_event ?hg (N := 11) ?hd (cs := #[.int .i64 0]) (t := 3) ?hr ?_; (case hd => rfl); (case hg => rfl); (case hr => first | (go_simp; done) | (go_simp; rfl)); intro gs hg w13 hbox hb; have GS : Aside0 (w.heap.size ≤ gs) := ⟨by rw [hg]; exact HD.out.below.size⟩; have NS : Aside0 (w4.heap.size ≤ gs) := ⟨by rw [hg]; exact HD.out.qle⟩; have n1_ := Aside0.mk (HD.out.step hb); have BS := Aside0.mk hbox; clear HD hb hbox hg; have HD := n1_; clear n1_; have hzs : w13.cell? ⟨gs, 0, none⟩ = some (.int .i64 0) := (blk_cell BS.out 0).trans rfl; have hfs := blk_frozen BS.out 0) |
                          ((with_reducible refine gate_store (t := 3) (p := 11) rfl ?_); refine store_event (t := 3) (p := 11) (v := ?vo_w14) (w1 := (w13.setCell ⟨gs, 0, none⟩ (.int .i64 s))) ?hg ?ho ?hn ?hr ?_; (case ho => rfl); (case hg => rfl); (case hn => rfl); (case hr => first | (go_simp; done) | (go_simp; rfl)); intro w14 hw; have n1_ := Aside0.mk (HD.out.putBox BS.out (by decide) GS.out NS.out hw); have n2_ := Aside0.mk (show w14.heap[gs]? = some (.cells #[.int .i64 s] 3 (0, 0)) by rw [hw]; exact blk_put (cs := #[.int .i64 0]) BS.out 0 _ rfl); clear HD BS hw hzs hfs; have HD := n1_; have BS := n2_; clear n1_ n2_; have hzx : w14.cell? ⟨gx, 0, none⟩ = some (.slice (some ⟨g0, 0, none⟩) l0_0.length cx) := (blk_cell HD.out.out 0).trans rfl; have hzs : w14.cell? ⟨gs, 0, none⟩ = some (.int .i64 s) := (blk_cell BS.out 0).trans rfl; obtain ⟨gi, cap, hx1, hx2, hf_, _⟩ := HD.out.put t s HC5.out HTL.out HC7.out HC8.out; rw [show (M.getD t.toNat []).getD s.toNat false = rdOf false (rd_L9 M t) s from rfl, ← HBV.out] at hx2; replace hx1 : w14.cell? ⟨g0, t.toNat, none⟩ = some (.slice (some ⟨gi, 0, none⟩) (rd_L9 M t).length cap) := hx1))
                            repeat (go_quiet (fail); try go_wp2)
                            go_roundg k3
                            case measure => have := HK1.out; have := HK2.out; have := HK3.out; omega
                            case rel => exact ⟨c, wrap64 (s + 1), M, rfl, rfl, HA, ⟨by have := HK3.out; omega⟩, ⟨by repeat (first | exact HD.out | refine DomSt.drewN ?_ _ | refine DomSt.drew ?_)⟩⟩
                          · rw [if_neg est] at H
                            have es1 : (s != t) = true := by simpa using est
                            clear est
                            by_cases c9 : t < (P.length : Int)
                            rotate_left
                            · rw [if_neg c9] at H
                              exact absurd H (by simp)
                            rw [if_pos c9] at H
                            have q5 : (t < (P.length : Int)) = True := eq_true c9
                            have HC9 := Aside0.mk c9
                            clear c9
                            obtain ⟨bb, had, H⟩ := Option.bind_eq_some_iff.mp H
                            have HAD := Aside0.mk had
                            clear had
                            refine bsplit bb (fun e2 => ?_) (fun e2 => ?_)
                            · subst e2
                              have H1 : impl_Prog_doms.l4 k3 M P c t (wrap64 (s + 1)) (l0_0.length : Int) = some r := by simpa using H
                              clear H
                              have HA := Aside0.mk H1
                              clear H1
                              go_wp2_with (first | ((with_reducible refine gate_dst (N := 11) rfl ?_); refine box_event ?hg (N := 11) ?hd (cs := #[.int .i64 0]) (t := 3) ?hr ?_; (case hd => rfl); (case hg => rfl); (case hr => first | (go_simp; done) | (go_simp; rfl)); intro gs hg w13 hbox hb; have GS : Aside0 (w.heap.size ≤ gs) := ⟨by rw [hg]; exact HD.out.below.size⟩; have NS : Aside0 (w4.heap.size ≤ gs) := ⟨by rw [hg]; exact HD.out.qle⟩; have n1_ := Aside0.mk (HD.out.step hb); have BS := Aside0.mk hbox; clear HD hb hbox hg; have HD := n1_; clear n1_; have hzs : w13.cell? ⟨gs, 0, none⟩ = some (.int .i64 0) := (blk_cell BS.out 0).trans rfl; have hfs := blk_frozen BS.out 0) |
                          ((with_reducible refine gate_store (t := 3) (p := 11) rfl ?_); refine store_event (t := 3) (p := 11) (v := ?vo_w14) (w1 := (w13.setCell ⟨gs, 0, none⟩ (.int .i64 s))) ?hg ?ho ?hn ?hr ?_; (case ho => rfl); (case hg => rfl); (case hn => rfl); (case hr => first | (go_simp; done) | (go_simp; rfl)); intro w14 hw; have n1_ := Aside0.mk (HD.out.putBox BS.out (by decide) GS.out NS.out hw); have n2_ := Aside0.mk (show w14.heap[gs]? = some (.cells #[.int .i64 s] 3 (0, 0)) by rw [hw]; exact blk_put (cs := #[.int .i64 0]) BS.out 0 _ rfl); clear HD BS hw hzs hfs; have HD := n1_; have BS := n2_; clear n1_ n2_; have hzx : w14.cell? ⟨gx, 0, none⟩ = some (.slice (some ⟨g0, 0, none⟩) l0_0.length cx) := (blk_cell HD.out.out 0).trans rfl; have hzs : w14.cell? ⟨gs, 0, none⟩ = some (.int .i64 s) := (blk_cell BS.out 0).trans rfl; obtain ⟨gi, cap, hx1, hx2, hf_, _⟩ := HD.out.put t s HC5.out HTL.out HC7.out HC8.out; rw [show (M.getD t.toNat []).getD s.toNat false = rdOf false (rd_L9 M t) s from rfl, ← HBV.out] at hx2; replace hx1 : w14.cell? ⟨g0, t.toNat, none⟩ = some (.slice (some ⟨gi, 0, none⟩) (rd_L9 M t).length cap) := hx1; obtain ⟨adP, A2, c2, eP, hxP, hl2, hr2⟩ := at_L2 (Kd.S_reads' HD.out.pres).2.2 t HC5.out HC9.out; cases eP; have HL2 := Aside0.mk hl2; have HR2 := Aside0.mk hr2; clear hl2 hr2))
                              repeat (go_quiet (first | (go_at_call 67; (with_reducible refine (anyDom.calls gx gs _ _ (rd_L2 P t) (some ⟨g0, 0, none⟩) cx M s false _ ?s1 ?s2 ?s3 ?s4 ?s5 ?s6 HAD.out).mono ?_); (case s1 => repeat (first | exact HR2.out | (with_reducible refine Kd.C_drewN ?_ _) | (with_reducible refine Kd.C_drew ?_))); (case s2 => exact HL2.out); (case s3 => repeat (first | exact HD.out.C | (with_reducible refine Kd.C_drewN ?_ _) | (with_reducible refine Kd.C_drew ?_))); (case s4 => exact HD.out.cap); (case s5 => rw [← HD.out.len]; repeat (first | exact HD.out.out | (with_reducible refine blk_drewN ?_ _) | (with_reducible refine blk_drew ?_))); (case s6 => repeat (first | exact BS.out | (with_reducible refine blk_drewN ?_ _) | (with_reducible refine blk_drew ?_))); rintro e w' ⟨rfl, ⟨nd, rfl⟩⟩; (try first | exact ⟨rfl, _, World.drewN_drewN _ _ _⟩ | exact ⟨rfl, _, Eq.trans (World.drewN_drewN _ _ _) (congrArg (World.drewN _) (Nat.add_assoc _ _ _))⟩))); try go_wp2_with (first | (go_at_call 67; (with_reducible refine (anyDom.calls gx gs _ _ (rd_L2 P t) (some ⟨g0, 0, none⟩) cx M s false _ ?s1 ?s2 ?s3 ?s4 ?s5 ?s6 HAD.out).mono ?_); (case s1 => repeat (first | exact HR2.out | (with_reducible refine Kd.C_drewN ?_ _) | (with_reducible refine Kd.C_drew ?_))); (case s2 => exact HL2.out); (case s3 => repeat (first | exact HD.out.C | (with_reducible refine Kd.C_drewN ?_ _) | (with_reducible refine Kd.C_drew ?_))); (case s4 => exact HD.out.cap); (case s5 => rw [← HD.out.len]; repeat (first | exact HD.out.out | (with_reducible refine blk_drewN ?_ _) | (with_reducible refine blk_drew ?_))); (case s6 => repeat (first | exact BS.out | (with_reducible refine blk_drewN ?_ _) | (with_reducible refine blk_drew ?_))); rintro e w' ⟨rfl, ⟨nd, rfl⟩⟩; (try first | exact ⟨rfl, _, World.drewN_drewN _ _ _⟩ | exact ⟨rfl, _, Eq.trans (World.drewN_drewN _ _ _) (congrArg (World.drewN _) (Nat.add_assoc _ _ _))⟩))))
                              go_roundg k3
                              case measure => have := HK1.out; have := HK2.out; have := HK3.out; omega
                              case rel => exact ⟨c, wrap64 (s + 1), M, rfl, rfl, HA, ⟨by have := HK3.out; omega⟩, ⟨by repeat (first | exact HD.out | refine DomSt.drewN ?_ _ | refine DomSt.drew ?_)⟩⟩
                            · subst e2
                              have H1 : impl_Prog_doms.l4 k3 (M.set t.toNat ((rd_L9 M t).set s.toNat false)) P true t (wrap64 (s + 1)) (l0_0.length : Int) = some r := by simpa using H
                              clear H
                              have HA := Aside0.mk H1
                              clear H1
                              go_wp2_with (first | ((with_reducible refine gate_dst (N := 11) rfl ?_); refine box_event ?hg (N := 11) ?hd (cs := #[.int .i64 0]) (t := 3) ?hr ?_; (case hd => rfl); (case hg => rfl); (case hr => first | (go_simp; done) | (go_simp; rfl)); intro gs hg w13 hbox hb; have GS : Aside0 (w.heap.size ≤ gs) := ⟨by rw [hg]; exact HD.out.below.size⟩; have NS : Aside0 (w4.heap.size ≤ gs) := ⟨by rw [hg]; exact HD.out.qle⟩; have n1_ := Aside0.mk (HD.out.step hb); have BS := Aside0.mk hbox; clear HD hb hbox hg; have HD := n1_; clear n1_; have hzs : w13.cell? ⟨gs, 0, none⟩ = some (.int .i64 0) := (blk_cell BS.out 0).trans rfl; have hfs := blk_frozen BS.out 0) |
                          ((with_reducible refine gate_store (t := 3) (p := 11) rfl ?_); refine store_event (t := 3) (p := 11) (v := ?vo_w14) (w1 := (w13.setCell ⟨gs, 0, none⟩ (.int .i64 s))) ?hg ?ho ?hn ?hr ?_; (case ho => rfl); (case hg => rfl); (case hn => rfl); (case hr => first | (go_simp; done) | (go_simp; rfl)); intro w14 hw; have n1_ := Aside0.mk (HD.out.putBox BS.out (by decide) GS.out NS.out hw); have n2_ := Aside0.mk (show w14.heap[gs]? = some (.cells #[.int .i64 s] 3 (0, 0)) by rw [hw]; exact blk_put (cs := #[.int .i64 0]) BS.out 0 _ rfl); clear HD BS hw hzs hfs; have HD := n1_; have BS := n2_; clear n1_ n2_; have hzx : w14.cell? ⟨gx, 0, none⟩ = some (.slice (some ⟨g0, 0, none⟩) l0_0.length cx) := (blk_cell HD.out.out 0).trans rfl; have hzs : w14.cell? ⟨gs, 0, none⟩ = some (.int .i64 s) := (blk_cell BS.out 0).trans rfl; obtain ⟨gi, cap, hx1, hx2, hf_, _⟩ := HD.out.put t s HC5.out HTL.out HC7.out HC8.out; rw [show (M.getD t.toNat []).getD s.toNat false = rdOf false (rd_L9 M t) s from rfl, ← HBV.out] at hx2; replace hx1 : w14.cell? ⟨g0, t.toNat, none⟩ = some (.slice (some ⟨gi, 0, none⟩) (rd_L9 M t).length cap) := hx1; obtain ⟨adP, A2, c2, eP, hxP, hl2, hr2⟩ := at_L2 (Kd.S_reads' HD.out.pres).2.2 t HC5.out HC9.out; cases eP; have HL2 := Aside0.mk hl2; have HR2 := Aside0.mk hr2; clear hl2 hr2))
                              repeat (go_quiet (first | (go_at_call 67; (with_reducible refine (anyDom.calls gx gs _ _ (rd_L2 P t) (some ⟨g0, 0, none⟩) cx M s true _ ?s1 ?s2 ?s3 ?s4 ?s5 ?s6 HAD.out).mono ?_); (case s1 => repeat (first | exact HR2.out | (with_reducible refine Kd.C_drewN ?_ _) | (with_reducible refine Kd.C_drew ?_))); (case s2 => exact HL2.out); (case s3 => repeat (first | exact HD.out.C | (with_reducible refine Kd.C_drewN ?_ _) | (with_reducible refine Kd.C_drew ?_))); (case s4 => exact HD.out.cap); (case s5 => rw [← HD.out.len]; repeat (first | exact HD.out.out | (with_reducible refine blk_drewN ?_ _) | (with_reducible refine blk_drew ?_))); (case s6 => repeat (first | exact BS.out | (with_reducible refine blk_drewN ?_ _) | (with_reducible refine blk_drew ?_))); rintro e w' ⟨rfl, ⟨nd, rfl⟩⟩; (try first | exact ⟨rfl, _, World.drewN_drewN _ _ _⟩ | exact ⟨rfl, _, Eq.trans (World.drewN_drewN _ _ _) (congrArg (World.drewN _) (Nat.add_assoc _ _ _))⟩))); try go_wp2_with (first | (go_at_call 67; (with_reducible refine (anyDom.calls gx gs _ _ (rd_L2 P t) (some ⟨g0, 0, none⟩) cx M s true _ ?s1 ?s2 ?s3 ?s4 ?s5 ?s6 HAD.out).mono ?_); (case s1 => repeat (first | exact HR2.out | (with_reducible refine Kd.C_drewN ?_ _) | (with_reducible refine Kd.C_drew ?_))); (case s2 => exact HL2.out); (case s3 => repeat (first | exact HD.out.C | (with_reducible refine Kd.C_drewN ?_ _) | (with_reducible refine Kd.C_drew ?_))); (case s4 => exact HD.out.cap); (case s5 => rw [← HD.out.len]; repeat (first | exact HD.out.out | (with_reducible refine blk_drewN ?_ _) | (with_reducible refine blk_drew ?_))); (case s6 => repeat (first | exact BS.out | (with_reducible refine blk_drewN ?_ _) | (with_reducible refine blk_drew ?_))); rintro e w' ⟨rfl, ⟨nd, rfl⟩⟩; (try first | exact ⟨rfl, _, World.drewN_drewN _ _ _⟩ | exact ⟨rfl, _, Eq.trans (World.drewN_drewN _ _ _) (congrArg (World.drewN _) (Nat.add_assoc _ _ _))⟩))))
                              refine start2_ (Φ := fun W => DomSt w w4.heap.size gp gx A0_0 l0_0.length c0_0 (some ⟨g0, 0, none⟩) cx AR cR R (some adP) cP P W M ∧ W.cell? ⟨gx, 0, none⟩ = some (.slice (some ⟨g0, 0, none⟩) l0_0.length cx) ∧ W.cell? ⟨g0, t.toNat, none⟩ = some (.slice (some ⟨gi, 0, none⟩) (rd_L9 M t).length cap) ∧ W.cell? ⟨gs, 0, none⟩ = some (.int .i64 s)) (n := 7) (S := fun w' => w'.cell? ⟨gx, 0, none⟩ = some (.slice (some ⟨g0, 0, none⟩) l0_0.length cx) ∧ w'.cell? ⟨g0, t.toNat, none⟩ = some (.slice (some ⟨gi, 0, none⟩) (rd_L9 M t).length cap) ∧ w'.cell? ⟨gs, 0, none⟩ = some (.int .i64 s)) (ds := [6]) #[false, false, false, false, false, false, false] (by kernel_rfl) rfl rfl ⟨by repeat (first | exact HD.out | refine DomSt.drewN ?_ _ | refine DomSt.drew ?_), hzx, hx1, hzs⟩ (fun W hD => hD.2) (fun w15 hD hHeld => ?_)
                              refine take_ (i := 0) (N := some 95) (v := ?_) (a' := ?_) #[true, false, false, false, false, false, false] rfl rfl (by kernel_rfl) (fun _ _ _ h => h) (Or.inl ⟨by rfl, ?_⟩) hHeld ?_ ?_
                              rotate_left
                              · rintro w' ⟨s0, s1, s2⟩
                                go_simp
                                with_reducible rfl
                              rotate_left
                              · simp only [Act.put, List.setIfInBounds_toArray, List.set_cons_zero, List.set_cons_succ, i64_w, i32_w]
                                rfl
                              refine pure_ (i := 1) (N := some 96) (v := ?_) (a' := ?_) #[true, true, false, false, false, false, false] rfl rfl (by kernel_rfl) (fun _ _ _ h => h) (Or.inl ⟨by rfl, ?_⟩) ?_ ?_
                              rotate_left
                              · intro w'
                                go_simp
                                with_reducible rfl
                              rotate_left
                              · simp only [Act.put, List.setIfInBounds_toArray, List.set_cons_zero, List.set_cons_succ, i64_w, i32_w]
                                rfl
                              refine pure_ (i := 2) (N := some 97) (v := ?_) (a' := ?_) #[true, true, true, false, false, false, false] rfl rfl (by kernel_rfl) (fun _ _ _ h => h) (Or.inl ⟨by rfl, ?_⟩) ?_ ?_
                              rotate_left
                              · intro w'
                                go_simp
                                with_reducible rfl
                              rotate_left
                              · simp only [Act.put, List.setIfInBounds_toArray, List.set_cons_zero, List.set_cons_succ, i64_w, i32_w]
                                rfl
                              refine take_ (i := 3) (N := some 98) (v := ?_) (a' := ?_) #[true, true, true, true, false, false, false] rfl rfl (by kernel_rfl) (fun _ _ _ h => h) (Or.inl ⟨by rfl, ?_⟩) hHeld ?_ ?_
                              rotate_left
                              · rintro w' ⟨s0, s1, s2⟩
                                go_simp
                                with_reducible rfl
                              rotate_left
                              · simp only [Act.put, List.setIfInBounds_toArray, List.set_cons_zero, List.set_cons_succ, i64_w, i32_w]
                                rfl
                              refine take_ (i := 4) (N := some 99) (v := ?_) (a' := ?_) #[true, true, true, true, true, false, false] rfl rfl (by kernel_rfl) (fun _ _ _ h => h) (Or.inl ⟨by rfl, ?_⟩) hHeld ?_ ?_
                              rotate_left
                              · rintro w' ⟨s0, s1, s2⟩
                                go_simp
                                with_reducible rfl
                              rotate_left
                              · simp only [Act.put, List.setIfInBounds_toArray, List.set_cons_zero, List.set_cons_succ, i64_w, i32_w]
                                rfl
                              refine pure_ (i := 5) (N := some 100) (v := ?_) (a' := ?_) #[true, true, true, true, true, true, false] rfl rfl (by kernel_rfl) (fun _ _ _ h => h) (Or.inl ⟨by rfl, ?_⟩) ?_ ?_
                              rotate_left
                              · intro w'
                                go_simp
                                with_reducible rfl
                              rotate_left
                              · simp only [Act.put, List.setIfInBounds_toArray, List.set_cons_zero, List.set_cons_succ, i64_w, i32_w]
                                rfl
                              refine last_ (i := 6) (N := none) #[true, true, true, true, true, true, true] rfl rfl (by kernel_rfl) (by decide) (fun K hK => ?_)
                              obtain ⟨hz, hf, hput⟩ := hD.1.putAt t s HC5.out HTL.out HC7.out HC8.out hD.2.2.1
                              refine skip_step (by rfl) (w1 := w15.setCell ⟨gi, s.toNat, none⟩ (.bool false)) (by first | (go_simp; done) | (go_simp; rfl)) ?_
                              intro w16 hw
                              have n0_ := Aside0.mk (show DomSt w w4.heap.size gp gx A0_0 l0_0.length c0_0 (some ⟨g0, 0, none⟩) cx AR cR R (some adP) cP P w16 (M.set t.toNat ((rd_L9 M t).set s.toNat false)) from hput false w16 hw)
                              clear HD hz hf hput hw
                              have HD := n0_
                              clear n0_
                              refine hK.out _ _ ?_
                              clear hK K
                              refine done_ (by kernel_rfl) ?_
                              go_wp2
                              go_roundg k3
                              case measure => have := HK1.out; have := HK2.out; have := HK3.out; omega
                              case rel => exact ⟨true, wrap64 (s + 1), _, rfl, rfl, HA, ⟨by have := HK3.out; omega⟩, HD⟩
                      · rw [if_neg c4] at H
                        have c4b : decide (s < (l0_0.length : Int)) = false := decide_eq_false c4
                        have HA := Aside0.mk H
                        clear H c4
                        go_wp2
                        go_roundg k3
                        case measure => have := HK1.out; have := HK2.out; have := HK3.out; omega
                        case rel => exact ⟨c, wrap64 (t + 1), M, rfl, rfl, HA, ⟨by have := HK2.out; have := HK3.out; omega⟩, HD⟩
                · rw [if_neg c3] at H
                  have c3b : decide (t < (l0_0.length : Int)) = false := decide_eq_false c3
                  have HA := Aside0.mk H
                  clear H c3
                  go_wp2
                  go_roundg k2
                  case measure => have := HK1.out; have := HK2.out; omega
                  case rel => exact ⟨c, M, rfl, HA, ⟨by have := HK1.out; have := HK2.out; omega⟩, HD⟩

end Go.Proofs.Ytkehjekbglajhaa.F
