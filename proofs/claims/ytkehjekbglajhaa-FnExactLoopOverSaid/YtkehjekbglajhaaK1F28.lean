-- printed by wip/myprint.py, a program that runs the kit's print.py patched in memory; hand-made contracts stand where that program has none. Not trusted: Lean checks it.
import Derived.Test.YtkehjekbglajhaaK1V1
import Derived.Test.YtkehjekbglajhaaK1F0
import Derived.Test.YtkehjekbglajhaaK1F5
import Derived.Test.YtkehjekbglajhaaK1F11
namespace Go.Proofs.Ytkehjekbglajhaa.F
open Go.RowKit Go.Proofs.YtkehjekbglajhaaW.PrintWords Go.Proofs.YtkehjekbglajhaaW.PrintLast
set_option linter.unusedVariables false
set_option linter.unusedSimpArgs false

mutual
def spec_LoopOver.l0 : Nat → List Int → List (List Bool) → Int → Option (List Int)
 | 0, _, _, _ => none
 | k + 1, x3, x4, x5 => if x5 < (x4.length : Int) then (spec_LoopOver.l1 k x3 x4 x5 (-1) 0) else (some x3)
def spec_LoopOver.l1 : Nat → List Int → List (List Bool) → Int → Int → Int → Option (List Int)
 | 0, _, _, _, _, _ => none
 | k + 1, x3, x4, x5, x6, x7 => if x7 < (x4.length : Int) then (if x7 = x5 then (spec_LoopOver.l1 k x3 x4 x5 x6 (wrap64 (x7 + 1))) else (if 0 ≤ x5 then (if x5 < (x4.length : Int) then (if 0 ≤ x7 then (if x7 < ((rd_L9 x4 x5).length : Int) then (if rdOf false (rd_L9 x4 x5) x7 = true then (if x6 < 0 then (spec_LoopOver.l1 k x3 x4 x5 x7 (wrap64 (x7 + 1))) else (if 0 ≤ x6 then (if x6 < ((rd_L9 x4 x7).length : Int) then (if rdOf false (rd_L9 x4 x7) x6 = true then (spec_LoopOver.l1 k x3 x4 x5 x7 (wrap64 (x7 + 1))) else (spec_LoopOver.l1 k x3 x4 x5 x6 (wrap64 (x7 + 1)))) else (none)) else (none))) else (spec_LoopOver.l1 k x3 x4 x5 x6 (wrap64 (x7 + 1)))) else (none)) else (none)) else (none)) else (none))) else (if x3.length < 17592186044416 then (spec_LoopOver.l0 k (x3 ++ [x6]) x4 (wrap64 (x5 + 1))) else (none))
end
def spec_LoopOver.f (k : Nat) (l0_0 : List (S68)) : Option (List Int) := (spec_FlowDoms.f k l0_0).bind fun t533 => (spec_LoopOver.l0 k (([] : List Int)) t533 0)
set_option maxHeartbeats 8000000 in
set_option maxRecDepth 100000 in
theorem spec_LoopOver.calls (k : Nat) (A0_0 : Option Addr) (c0_0 : Nat) (l0_0 : List (S68)) (r : List Int) (w : World) (hr0_0 : Kd.C k68 w A0_0 l0_0.length l0_0) (hc0_0 : l0_0.length ≤ c0_0) (h : spec_LoopOver.f k l0_0 = some r) :
  Calls Try.prog 46 #[.agg #[.slice A0_0 l0_0.length c0_0]] w fun e w' => ∃ v0_ : Value, e = .returned (v0_) ∧ Kd.R (Kd.int .i64) 3 w' w.heap.size (fun _ => True) v0_ r ∧ Below w.heap.size w w' := by
 have hu29 := Try.underlying29
 have HR0_0 := Aside0.mk hr0_0
 have HC0_0 := Aside0.mk hc0_0
 clear hr0_0 hc0_0
 have HB := Aside0.mk (Below.refl w.heap.size w)
 have H : ((spec_FlowDoms.f k l0_0).bind fun t533 => (spec_LoopOver.l0 k (([] : List Int)) t533 0)) = some r := h
 clear h
 obtain ⟨y530, hy530⟩ : ∃ y_ : List Int, y_ = (([] : List Int)) := ⟨_, rfl⟩
 replace H : ((spec_FlowDoms.f k l0_0).bind fun t533 => (spec_LoopOver.l0 k y530 t533 0)) = some r := by first | (rw [hy530]; with_reducible exact H) | (have H2_ := (Option.bind_some _ _).symm.trans H; rw [hy530]; with_reducible exact H2_) | (have H2_ := (Option.bind_some _ _).symm.trans H; with_reducible exact H2_) | with_reducible exact H | (rw [hy530]; exact H) | exact H
 have Ny530 := Aside0.mk hy530
 clear hy530
 replace H := Option.bind_eq_some_iff.mp H
 obtain ⟨t533, A20, H⟩ := H
 replace H : (spec_LoopOver.l0 k y530 t533 0) = some r := H
 have A2 := Aside0.mk A20
 clear A20
 have H' := Aside0.mk H
 clear H
 go_enter Try.func46, Try.ntmps46
 go_wp2_with (first | ((with_reducible refine gate_dst (N := 1) rfl ?_); refine box_event ?hg (N := 1) ?hd (cs := #[.slice A0_0 l0_0.length c0_0]) (t := 29) ?hr ?_; (case hd => rfl); (case hg => rfl); (case hr => first | (go_simp; done) | (go_simp; rfl)); intro gb529 hg w3 hbox hb; have n_ := boxed (bel HB.out) hb hbox hg; clear HB hb hbox hg; obtain ⟨HB, BK529, GW529, GE529⟩ := n_) | ((with_reducible refine gate_dst (N := 8) rfl ?_); refine Kd.R_lit (Kd.int .i64) _ 3 ?hg (N := 8) ?hd (xs := ([] : List Int)) (inner := []) (ok := fun _ => True) (okp := fun _ => True) ?hr ?hp (fun _ hk => hk) trivial (Below.refl _ _) (Nat.le_refl _) (by simp) ?_; (case hd => rfl); (case hg => rfl); (case hr => first | (go_simp; done) | (go_simp; rfl)); (case hp => exact (Reps.none _ _)); intro v531 w4 ho5 hb hg_ hnew_; clear hg_ hnew_; (first | rw [← Ny530.out] at ho5 | (simp only [Int.reduceToNat] at ho5; rw [← Ny530.out] at ho5)); have n0_ := Aside0.mk (Kd.R_lower ho5 (below_size (by repeat (first | (with_reducible first | exact HB.out | apply below_alloc | apply pw_below_drewN | apply below_drew1 | refine below_set ?_ GE529.out) | exact HB.out)))); have n1_ := Aside0.mk (blk_below (g := gb529) (o := .cells #[.slice A0_0 l0_0.length c0_0] 29 (0, 0)) (by (with_reducible repeat (first | refine blk_drewN ?_ _ | refine blk_drew ?_ | refine blk_alloc ?_ _)); exact BK529.out) hb); have n2_ := Aside0.mk (below_step (by repeat (first | (with_reducible first | exact HB.out | apply below_alloc | apply pw_below_drewN | apply below_drew1 | refine below_set ?_ GE529.out) | exact HB.out)) hb); clear BK529; clear HB; have HO532 := n0_; have BK529 := n1_; have HB := n2_; clear n0_ n1_ n2_; clear hb ho5; have hcz6_0 : w4.cell? ⟨gb529, 0, none⟩ = some (.slice A0_0 l0_0.length c0_0) := (blk_cell BK529.out 0).trans rfl) | ((with_reducible refine gate_callee (f := 41) rfl ?_); refine goesL_ (some 10) rfl rfl Try.func41 (by kernel_rfl) rfl #[.agg #[.slice A0_0 l0_0.length c0_0]] rfl (by (try simp only [List.map_toArray, List.map_cons, List.map_nil]); first | done | rfl | (simp only [List.length_drop, List.length_take]; rfl)) ?_; (with_reducible refine (spec_FlowDoms.calls k _ _ l0_0 t533 _ ?side1 ?side2 A2.out).mono ?_); (case side1 => repeat (first | exact (Kd.C_below HR0_0.out HB.out) | (with_reducible refine Kd.C_alloc ?_ _) | (with_reducible refine Kd.C_drewN ?_ _) | (with_reducible refine Kd.C_drew ?_))); (case side2 => exact HC0_0.out); rintro e w7 ⟨v534, rfl, ho0, hb⟩; refine ⟨_, rfl, ?_⟩; have n0_ := Aside0.mk (Kd.R_below (by (with_reducible repeat (first | apply Kd.R_alloc | apply Kd.R_drewN | apply Kd.R_drew)); exact HO532.out) hb); have n1_ := Aside0.mk (Kd.S_lower ho0 (below_size (by repeat (first | (with_reducible first | exact HB.out | apply below_alloc | apply pw_below_drewN | apply below_drew1 | refine below_set ?_ GE529.out) | exact HB.out)))); have n2_ := Aside0.mk (blk_below (g := gb529) (o := .cells #[.slice A0_0 l0_0.length c0_0] 29 (0, 0)) (by (with_reducible repeat (first | refine blk_drewN ?_ _ | refine blk_drew ?_ | refine blk_alloc ?_ _)); exact BK529.out) hb); have n3_ := Aside0.mk (below_step (by repeat (first | (with_reducible first | exact HB.out | apply below_alloc | apply pw_below_drewN | apply below_drew1 | refine below_set ?_ GE529.out) | exact HB.out)) hb); clear HO532; clear BK529; clear HB; have HO532 := n0_; have HO535 := n1_; have BK529 := n2_; have HB := n3_; clear n0_ n1_ n2_ n3_; (try clear hb); (try clear hb2); (try clear hk); (try clear hi); (try clear ho0)))
 go_loopg [3, 5] k (fun kq v3 v5 w' => ∃ (x3_1 : List Int) (x5_1 : Int), v5 = .int .i64 x5_1 ∧ Aside0 (spec_LoopOver.l0 kq x3_1 t533 x5_1 = some r) ∧ Aside0 (kq ≤ k) ∧ Aside0 (Kd.R (Kd.int .i64) 3 w' w.heap.size (fun _ => True) v3 x3_1) ∧ Aside0 (Kd.S (Kd.slice 4 Kd.bool) 33 w' w.heap.size (fun _ => True) v534 t533) ∧ Aside0 (w'.heap[gb529]? = some (.cells #[(.slice A0_0 l0_0.length c0_0)] 29 (0, 0))) ∧ Aside0 (Below w.heap.size w w'))
 case atStart => exact ⟨(y530), (0), (by first | rfl | (simp; done) | (simp [*]; done)), H', ⟨Nat.le_refl _⟩, ⟨by (with_reducible repeat (first | apply Kd.R_alloc | apply Kd.R_drewN | apply Kd.R_drew)); exact HO532.out⟩, ⟨by (with_reducible repeat (first | apply Kd.S_alloc | apply Kd.S_drewN | apply Kd.S_drew)); exact HO535.out⟩, ⟨by (with_reducible repeat (first | refine blk_drewN ?_ _ | refine blk_drew ?_ | refine blk_alloc ?_ _)); exact BK529.out⟩, ⟨by repeat (first | (with_reducible first | exact HB.out | apply below_alloc | apply pw_below_drewN | apply below_drew1 | refine below_set ?_ GE529.out) | exact HB.out)⟩⟩
 case round =>
  clear H'
  try clear hcz6_0
  obtain ⟨x3_1, x5_1, rfl, HA, HK1, HO_3, HO_4, BK529, HB⟩ := hrel
  cases gk with
  | zero => exact absurd HA.out (by simp [spec_LoopOver.l0])
  | succ k1 =>
   have H := HA.out
   clear HA
   simp only [spec_LoopOver.l0] at H
   by_cases c8 : x5_1 < (t533.length : Int)
   ·rw [if_pos c8] at H
    have c8b0 : decide (x5_1 < (t533.length : Int)) = true := decide_eq_true c8
    clear c8
    have H' := Aside0.mk H
    clear H
    obtain ⟨Ao9, co9, eo9⟩ := Kd.S_slice HO_4.out
    subst eo9
    go_wp2
    go_loopg [6, 7] k1 (fun kq v6 v7 w' => ∃ (x6_2 : Int) (x7_2 : Int), v6 = .int .i64 x6_2 ∧ v7 = .int .i64 x7_2 ∧ Aside0 (spec_LoopOver.l1 kq x3_1 t533 x5_1 x6_2 x7_2 = some r) ∧ Aside0 (kq ≤ k1) ∧ Aside0 (Kd.R (Kd.int .i64) 3 w' w.heap.size (fun _ => True) u3 x3_1) ∧ Aside0 (Kd.S (Kd.slice 4 Kd.bool) 33 w' w.heap.size (fun _ => True) (.slice Ao9 t533.length co9) t533) ∧ Aside0 (w'.heap[gb529]? = some (.cells #[(.slice A0_0 l0_0.length c0_0)] 29 (0, 0))) ∧ Aside0 (Below w.heap.size w w'))
    case atStart => exact ⟨((-1)), (0), (by first | rfl | (simp; done) | (simp [*]; done)), (by first | rfl | (simp; done) | (simp [*]; done)), H', ⟨Nat.le_refl _⟩, ⟨by (with_reducible repeat (first | apply Kd.R_alloc | apply Kd.R_drewN | apply Kd.R_drew)); exact HO_3.out⟩, ⟨by (with_reducible repeat (first | apply Kd.S_alloc | apply Kd.S_drewN | apply Kd.S_drew)); exact HO_4.out⟩, ⟨by (with_reducible repeat (first | refine blk_drewN ?_ _ | refine blk_drew ?_ | refine blk_alloc ?_ _)); exact BK529.out⟩, ⟨by repeat (first | (with_reducible first | exact HB.out | apply below_alloc | apply pw_below_drewN | apply below_drew1 | refine below_set ?_ GE529.out) | exact HB.out)⟩⟩
    case round =>
     clear H'
     (try clear c8); (try clear c8b0); (try clear hcz6_0)
     obtain ⟨x6_2, x7_2, rfl, rfl, HA, HK2, HO_3, HO_4, BK529, HB⟩ := hrel
     cases gk with
     | zero => exact absurd HA.out (by simp [spec_LoopOver.l1])
     | succ k2 =>
      have H := HA.out
      clear HA
      simp only [spec_LoopOver.l1] at H
      by_cases c10 : x7_2 < (t533.length : Int)
      ·rw [if_pos c10] at H
       have c10b0 : decide (x7_2 < (t533.length : Int)) = true := decide_eq_true c10
       clear c10
       by_cases c11 : x7_2 = x5_1
       ·rw [if_pos c11] at H
        have c11b0 : (x7_2 == x5_1) = true := beq_iff_eq.mpr c11
        have c11b1 : (x7_2 != x5_1) = false := bne_eq_false_iff_eq.mpr c11
        clear c11
        have H' := Aside0.mk H
        clear H
        go_wp2
        go_roundg k2
        case measure => have := HK1.out; have := HK2.out; omega
        case rel => exact ⟨(x6_2), (wrap64 (x7_2 + 1)), (by first | rfl | (simp; done) | (simp [*]; done)), (by first | rfl | (simp; done) | (simp [*]; done)), H', ⟨by have := HK1.out; have := HK2.out; omega⟩, ⟨by (with_reducible repeat (first | apply Kd.R_alloc | apply Kd.R_drewN | apply Kd.R_drew)); exact HO_3.out⟩, ⟨by (with_reducible repeat (first | apply Kd.S_alloc | apply Kd.S_drewN | apply Kd.S_drew)); exact HO_4.out⟩, ⟨by (with_reducible repeat (first | refine blk_drewN ?_ _ | refine blk_drew ?_ | refine blk_alloc ?_ _)); exact BK529.out⟩, ⟨by repeat (first | (with_reducible first | exact HB.out | apply below_alloc | apply pw_below_drewN | apply below_drew1 | refine below_set ?_ GE529.out) | exact HB.out)⟩⟩
       ·rw [if_neg c11] at H
        have c11b0 : (x7_2 == x5_1) = false := beq_eq_false_iff_ne.mpr c11
        have c11b1 : (x7_2 != x5_1) = true := bne_iff_ne.mpr c11
        by_cases c12 : 0 ≤ x5_1
        ·rw [if_pos c12] at H
         have c12b0 : decide (0 ≤ x5_1) = true := decide_eq_true c12
         clear c12
         by_cases c13 : x5_1 < (t533.length : Int)
         ·rw [if_pos c13] at H
          have c13b0 : decide (x5_1 < (t533.length : Int)) = true := decide_eq_true c13
          clear c13
          by_cases c14 : 0 ≤ x7_2
          ·rw [if_pos c14] at H
           have c14b0 : decide (0 ≤ x7_2) = true := decide_eq_true c14
           clear c14
           by_cases c15 : x7_2 < ((rd_L9 t533 x5_1).length : Int)
           ·rw [if_pos c15] at H
            have c15b0 : decide (x7_2 < ((rd_L9 t533 x5_1).length : Int)) = true := decide_eq_true c15
            clear c15
            obtain ⟨bq16, hbq16⟩ : ∃ b_ : Bool, b_ = (rdOf false (rd_L9 t533 x5_1) x7_2) := ⟨_, rfl⟩
            replace H : (if bq16 = true then (if x6_2 < 0 then (spec_LoopOver.l1 k2 x3_1 t533 x5_1 x7_2 (wrap64 (x7_2 + 1))) else (if 0 ≤ x6_2 then (if x6_2 < ((rd_L9 t533 x7_2).length : Int) then (if rdOf false (rd_L9 t533 x7_2) x6_2 = true then (spec_LoopOver.l1 k2 x3_1 t533 x5_1 x7_2 (wrap64 (x7_2 + 1))) else (spec_LoopOver.l1 k2 x3_1 t533 x5_1 x6_2 (wrap64 (x7_2 + 1)))) else (none)) else (none))) else (spec_LoopOver.l1 k2 x3_1 t533 x5_1 x6_2 (wrap64 (x7_2 + 1)))) = some r := by rw [← hbq16] at H; exact H
            have Nbq16 := Aside0.mk hbq16
            clear hbq16
            by_cases c17 : bq16 = true
            ·subst c17
             have H1 : (if x6_2 < 0 then (spec_LoopOver.l1 k2 x3_1 t533 x5_1 x7_2 (wrap64 (x7_2 + 1))) else (if 0 ≤ x6_2 then (if x6_2 < ((rd_L9 t533 x7_2).length : Int) then (if rdOf false (rd_L9 t533 x7_2) x6_2 = true then (spec_LoopOver.l1 k2 x3_1 t533 x5_1 x7_2 (wrap64 (x7_2 + 1))) else (spec_LoopOver.l1 k2 x3_1 t533 x5_1 x6_2 (wrap64 (x7_2 + 1)))) else (none)) else (none))) = some r := by rw [if_pos rfl] at H; exact H
             clear H
             have H := H1
             clear H1
             by_cases c18 : x6_2 < 0
             ·rw [if_pos c18] at H
              have c18b0 : decide (x6_2 < 0) = true := decide_eq_true c18
              clear c18
              have H' := Aside0.mk H
              clear H
              have p536 : 0 ≤ (x5_1 : Int) := of_decide_eq_true (by first | (with_reducible assumption) | assumption)
              have q536 : x5_1 < (t533.length : Int) := of_decide_eq_true (by first | (with_reducible assumption) | assumption)
              obtain ⟨ad536, A536_0, c536_0, e536, hx536_0, hl536_0, hi536_0⟩ := at_L9 (Kd.S_reads' HO_4.out).2.2 x5_1 p536 q536
              cases e536
              obtain ⟨ce536, hce536, hMe536, hcc536⟩ := Kd.S_get HO_4.out [] x5_1 p536 (by first | exact q536 | exact of_decide_eq_true (by first | (with_reducible assumption) | assumption) | (have e_ := (Kd.S_reads' HO_4.out).1; omega))
              obtain ⟨ve536_0, rfl, ge536_0⟩ := hMe536
              have hv536_0 := hcc536 0 _ rfl
              rw [Nat.add_zero, show ((Kd.slice 4 Kd.bool)).sz = 1 from rfl, Nat.mul_one] at hv536_0
              replace hv536_0 := Option.some.inj (hv536_0.symm.trans hx536_0)
              rw [hv536_0] at ge536_0
              have HL536_0 := Aside0.mk (show Kd.R Kd.bool 4 _ _ _ _ (rd_L9 t533 x5_1) from ge536_0)
              clear hv536_0 ge536_0
              clear hcc536 hce536
              have HR536_0 := Aside0.mk hi536_0
              have HC536_0 := Aside0.mk hl536_0
              clear hi536_0 hl536_0
              replace p536 := eq_true p536
              replace q536 := eq_true q536
              have p537 : 0 ≤ (x7_2 : Int) := of_decide_eq_true (by first | (with_reducible assumption) | assumption)
              have q537 : x7_2 < ((rd_L9 t533 x5_1).length : Int) := of_decide_eq_true (by first | (with_reducible assumption) | assumption)
              obtain ⟨ad537, e537, hx537_0⟩ := Kd.at_bool (by repeat (first | (with_reducible exact HR536_0.out) | (with_reducible refine Kd.C_alloc ?_ _) | (with_reducible refine Kd.C_drewN ?_ _) | (with_reducible refine Kd.C_drew ?_) | exact HR536_0.out)) x7_2 p537 q537
              (try rw [← Nbq16.out] at hx537_0)
              cases e537
              replace p537 := eq_true p537
              replace q537 := eq_true q537
              go_wp2
              go_roundg k2
              case measure => have := HK1.out; have := HK2.out; omega
              case rel => exact ⟨(x7_2), (wrap64 (x7_2 + 1)), (by first | rfl | (simp; done) | (simp [*]; done)), (by first | rfl | (simp; done) | (simp [*]; done)), H', ⟨by have := HK1.out; have := HK2.out; omega⟩, ⟨by (with_reducible repeat (first | apply Kd.R_alloc | apply Kd.R_drewN | apply Kd.R_drew)); exact HO_3.out⟩, ⟨by (with_reducible repeat (first | apply Kd.S_alloc | apply Kd.S_drewN | apply Kd.S_drew)); exact HO_4.out⟩, ⟨by (with_reducible repeat (first | refine blk_drewN ?_ _ | refine blk_drew ?_ | refine blk_alloc ?_ _)); exact BK529.out⟩, ⟨by repeat (first | (with_reducible first | exact HB.out | apply below_alloc | apply pw_below_drewN | apply below_drew1 | refine below_set ?_ GE529.out) | exact HB.out)⟩⟩
             ·rw [if_neg c18] at H
              have c18b0 : decide (x6_2 < 0) = false := decide_eq_false c18
              clear c18
              by_cases c19 : 0 ≤ x6_2
              ·rw [if_pos c19] at H
               have c19b0 : decide (0 ≤ x6_2) = true := decide_eq_true c19
               clear c19
               by_cases c20 : x6_2 < ((rd_L9 t533 x7_2).length : Int)
               ·rw [if_pos c20] at H
                have c20b0 : decide (x6_2 < ((rd_L9 t533 x7_2).length : Int)) = true := decide_eq_true c20
                clear c20
                obtain ⟨bq21, hbq21⟩ : ∃ b_ : Bool, b_ = (rdOf false (rd_L9 t533 x7_2) x6_2) := ⟨_, rfl⟩
                replace H : (if bq21 = true then (spec_LoopOver.l1 k2 x3_1 t533 x5_1 x7_2 (wrap64 (x7_2 + 1))) else (spec_LoopOver.l1 k2 x3_1 t533 x5_1 x6_2 (wrap64 (x7_2 + 1)))) = some r := by rw [← hbq21] at H; exact H
                have Nbq21 := Aside0.mk hbq21
                clear hbq21
                by_cases c22 : bq21 = true
                ·subst c22
                 have H1 : (spec_LoopOver.l1 k2 x3_1 t533 x5_1 x7_2 (wrap64 (x7_2 + 1))) = some r := by rw [if_pos rfl] at H; exact H
                 clear H
                 have H := H1
                 clear H1
                 have H' := Aside0.mk H
                 clear H
                 have p536 : 0 ≤ (x5_1 : Int) := of_decide_eq_true (by first | (with_reducible assumption) | assumption)
                 have q536 : x5_1 < (t533.length : Int) := of_decide_eq_true (by first | (with_reducible assumption) | assumption)
                 obtain ⟨ad536, A536_0, c536_0, e536, hx536_0, hl536_0, hi536_0⟩ := at_L9 (Kd.S_reads' HO_4.out).2.2 x5_1 p536 q536
                 cases e536
                 obtain ⟨ce536, hce536, hMe536, hcc536⟩ := Kd.S_get HO_4.out [] x5_1 p536 (by first | exact q536 | exact of_decide_eq_true (by first | (with_reducible assumption) | assumption) | (have e_ := (Kd.S_reads' HO_4.out).1; omega))
                 obtain ⟨ve536_0, rfl, ge536_0⟩ := hMe536
                 have hv536_0 := hcc536 0 _ rfl
                 rw [Nat.add_zero, show ((Kd.slice 4 Kd.bool)).sz = 1 from rfl, Nat.mul_one] at hv536_0
                 replace hv536_0 := Option.some.inj (hv536_0.symm.trans hx536_0)
                 rw [hv536_0] at ge536_0
                 have HL536_0 := Aside0.mk (show Kd.R Kd.bool 4 _ _ _ _ (rd_L9 t533 x5_1) from ge536_0)
                 clear hv536_0 ge536_0
                 clear hcc536 hce536
                 have HR536_0 := Aside0.mk hi536_0
                 have HC536_0 := Aside0.mk hl536_0
                 clear hi536_0 hl536_0
                 replace p536 := eq_true p536
                 replace q536 := eq_true q536
                 have p537 : 0 ≤ (x7_2 : Int) := of_decide_eq_true (by first | (with_reducible assumption) | assumption)
                 have q537 : x7_2 < ((rd_L9 t533 x5_1).length : Int) := of_decide_eq_true (by first | (with_reducible assumption) | assumption)
                 obtain ⟨ad537, e537, hx537_0⟩ := Kd.at_bool (by repeat (first | (with_reducible exact HR536_0.out) | (with_reducible refine Kd.C_alloc ?_ _) | (with_reducible refine Kd.C_drewN ?_ _) | (with_reducible refine Kd.C_drew ?_) | exact HR536_0.out)) x7_2 p537 q537
                 (try rw [← Nbq16.out] at hx537_0)
                 (try rw [← Nbq21.out] at hx537_0)
                 cases e537
                 replace p537 := eq_true p537
                 replace q537 := eq_true q537
                 have p538 : 0 ≤ (x7_2 : Int) := of_decide_eq_true (by first | (with_reducible assumption) | assumption)
                 have q538 : x7_2 < (t533.length : Int) := of_decide_eq_true (by first | (with_reducible assumption) | assumption)
                 obtain ⟨ad538, A538_0, c538_0, e538, hx538_0, hl538_0, hi538_0⟩ := at_L9 (Kd.S_reads' HO_4.out).2.2 x7_2 p538 q538
                 obtain rfl : ad536 = ad538 := (by injection e538)
                 obtain ⟨ce538, hce538, hMe538, hcc538⟩ := Kd.S_get HO_4.out [] x7_2 p538 (by first | exact q538 | exact of_decide_eq_true (by first | (with_reducible assumption) | assumption) | (have e_ := (Kd.S_reads' HO_4.out).1; omega))
                 obtain ⟨ve538_0, rfl, ge538_0⟩ := hMe538
                 have hv538_0 := hcc538 0 _ rfl
                 rw [Nat.add_zero, show ((Kd.slice 4 Kd.bool)).sz = 1 from rfl, Nat.mul_one] at hv538_0
                 replace hv538_0 := Option.some.inj (hv538_0.symm.trans hx538_0)
                 rw [hv538_0] at ge538_0
                 have HL538_0 := Aside0.mk (show Kd.R Kd.bool 4 _ _ _ _ (rd_L9 t533 x7_2) from ge538_0)
                 clear hv538_0 ge538_0
                 clear hcc538 hce538
                 have HR538_0 := Aside0.mk hi538_0
                 have HC538_0 := Aside0.mk hl538_0
                 clear hi538_0 hl538_0
                 replace p538 := eq_true p538
                 replace q538 := eq_true q538
                 have p539 : 0 ≤ (x6_2 : Int) := of_decide_eq_true (by first | (with_reducible assumption) | assumption)
                 have q539 : x6_2 < ((rd_L9 t533 x7_2).length : Int) := of_decide_eq_true (by first | (with_reducible assumption) | assumption)
                 obtain ⟨ad539, e539, hx539_0⟩ := Kd.at_bool (by repeat (first | (with_reducible exact HR538_0.out) | (with_reducible refine Kd.C_alloc ?_ _) | (with_reducible refine Kd.C_drewN ?_ _) | (with_reducible refine Kd.C_drew ?_) | exact HR538_0.out)) x6_2 p539 q539
                 (try rw [← Nbq16.out] at hx539_0)
                 (try rw [← Nbq21.out] at hx539_0)
                 cases e539
                 replace p539 := eq_true p539
                 replace q539 := eq_true q539
                 go_wp2
                 go_roundg k2
                 case measure => have := HK1.out; have := HK2.out; omega
                 case rel => exact ⟨(x7_2), (wrap64 (x7_2 + 1)), (by first | rfl | (simp; done) | (simp [*]; done)), (by first | rfl | (simp; done) | (simp [*]; done)), H', ⟨by have := HK1.out; have := HK2.out; omega⟩, ⟨by (with_reducible repeat (first | apply Kd.R_alloc | apply Kd.R_drewN | apply Kd.R_drew)); exact HO_3.out⟩, ⟨by (with_reducible repeat (first | apply Kd.S_alloc | apply Kd.S_drewN | apply Kd.S_drew)); exact HO_4.out⟩, ⟨by (with_reducible repeat (first | refine blk_drewN ?_ _ | refine blk_drew ?_ | refine blk_alloc ?_ _)); exact BK529.out⟩, ⟨by repeat (first | (with_reducible first | exact HB.out | apply below_alloc | apply pw_below_drewN | apply below_drew1 | refine below_set ?_ GE529.out) | exact HB.out)⟩⟩
                ·replace c22 := Bool.eq_false_iff.mpr c22
                 subst c22
                 have H1 : (spec_LoopOver.l1 k2 x3_1 t533 x5_1 x6_2 (wrap64 (x7_2 + 1))) = some r := by rw [if_neg (show ¬ (false = true) by decide)] at H; exact H
                 clear H
                 have H := H1
                 clear H1
                 have H' := Aside0.mk H
                 clear H
                 have p536 : 0 ≤ (x5_1 : Int) := of_decide_eq_true (by first | (with_reducible assumption) | assumption)
                 have q536 : x5_1 < (t533.length : Int) := of_decide_eq_true (by first | (with_reducible assumption) | assumption)
                 obtain ⟨ad536, A536_0, c536_0, e536, hx536_0, hl536_0, hi536_0⟩ := at_L9 (Kd.S_reads' HO_4.out).2.2 x5_1 p536 q536
                 cases e536
                 obtain ⟨ce536, hce536, hMe536, hcc536⟩ := Kd.S_get HO_4.out [] x5_1 p536 (by first | exact q536 | exact of_decide_eq_true (by first | (with_reducible assumption) | assumption) | (have e_ := (Kd.S_reads' HO_4.out).1; omega))
                 obtain ⟨ve536_0, rfl, ge536_0⟩ := hMe536
                 have hv536_0 := hcc536 0 _ rfl
                 rw [Nat.add_zero, show ((Kd.slice 4 Kd.bool)).sz = 1 from rfl, Nat.mul_one] at hv536_0
                 replace hv536_0 := Option.some.inj (hv536_0.symm.trans hx536_0)
                 rw [hv536_0] at ge536_0
                 have HL536_0 := Aside0.mk (show Kd.R Kd.bool 4 _ _ _ _ (rd_L9 t533 x5_1) from ge536_0)
                 clear hv536_0 ge536_0
                 clear hcc536 hce536
                 have HR536_0 := Aside0.mk hi536_0
                 have HC536_0 := Aside0.mk hl536_0
                 clear hi536_0 hl536_0
                 replace p536 := eq_true p536
                 replace q536 := eq_true q536
                 have p537 : 0 ≤ (x7_2 : Int) := of_decide_eq_true (by first | (with_reducible assumption) | assumption)
                 have q537 : x7_2 < ((rd_L9 t533 x5_1).length : Int) := of_decide_eq_true (by first | (with_reducible assumption) | assumption)
                 obtain ⟨ad537, e537, hx537_0⟩ := Kd.at_bool (by repeat (first | (with_reducible exact HR536_0.out) | (with_reducible refine Kd.C_alloc ?_ _) | (with_reducible refine Kd.C_drewN ?_ _) | (with_reducible refine Kd.C_drew ?_) | exact HR536_0.out)) x7_2 p537 q537
                 (try rw [← Nbq16.out] at hx537_0)
                 (try rw [← Nbq21.out] at hx537_0)
                 cases e537
                 replace p537 := eq_true p537
                 replace q537 := eq_true q537
                 have p538 : 0 ≤ (x7_2 : Int) := of_decide_eq_true (by first | (with_reducible assumption) | assumption)
                 have q538 : x7_2 < (t533.length : Int) := of_decide_eq_true (by first | (with_reducible assumption) | assumption)
                 obtain ⟨ad538, A538_0, c538_0, e538, hx538_0, hl538_0, hi538_0⟩ := at_L9 (Kd.S_reads' HO_4.out).2.2 x7_2 p538 q538
                 obtain rfl : ad536 = ad538 := (by injection e538)
                 obtain ⟨ce538, hce538, hMe538, hcc538⟩ := Kd.S_get HO_4.out [] x7_2 p538 (by first | exact q538 | exact of_decide_eq_true (by first | (with_reducible assumption) | assumption) | (have e_ := (Kd.S_reads' HO_4.out).1; omega))
                 obtain ⟨ve538_0, rfl, ge538_0⟩ := hMe538
                 have hv538_0 := hcc538 0 _ rfl
                 rw [Nat.add_zero, show ((Kd.slice 4 Kd.bool)).sz = 1 from rfl, Nat.mul_one] at hv538_0
                 replace hv538_0 := Option.some.inj (hv538_0.symm.trans hx538_0)
                 rw [hv538_0] at ge538_0
                 have HL538_0 := Aside0.mk (show Kd.R Kd.bool 4 _ _ _ _ (rd_L9 t533 x7_2) from ge538_0)
                 clear hv538_0 ge538_0
                 clear hcc538 hce538
                 have HR538_0 := Aside0.mk hi538_0
                 have HC538_0 := Aside0.mk hl538_0
                 clear hi538_0 hl538_0
                 replace p538 := eq_true p538
                 replace q538 := eq_true q538
                 have p539 : 0 ≤ (x6_2 : Int) := of_decide_eq_true (by first | (with_reducible assumption) | assumption)
                 have q539 : x6_2 < ((rd_L9 t533 x7_2).length : Int) := of_decide_eq_true (by first | (with_reducible assumption) | assumption)
                 obtain ⟨ad539, e539, hx539_0⟩ := Kd.at_bool (by repeat (first | (with_reducible exact HR538_0.out) | (with_reducible refine Kd.C_alloc ?_ _) | (with_reducible refine Kd.C_drewN ?_ _) | (with_reducible refine Kd.C_drew ?_) | exact HR538_0.out)) x6_2 p539 q539
                 (try rw [← Nbq16.out] at hx539_0)
                 (try rw [← Nbq21.out] at hx539_0)
                 cases e539
                 replace p539 := eq_true p539
                 replace q539 := eq_true q539
                 go_wp2
                 go_roundg k2
                 case measure => have := HK1.out; have := HK2.out; omega
                 case rel => exact ⟨(x6_2), (wrap64 (x7_2 + 1)), (by first | rfl | (simp; done) | (simp [*]; done)), (by first | rfl | (simp; done) | (simp [*]; done)), H', ⟨by have := HK1.out; have := HK2.out; omega⟩, ⟨by (with_reducible repeat (first | apply Kd.R_alloc | apply Kd.R_drewN | apply Kd.R_drew)); exact HO_3.out⟩, ⟨by (with_reducible repeat (first | apply Kd.S_alloc | apply Kd.S_drewN | apply Kd.S_drew)); exact HO_4.out⟩, ⟨by (with_reducible repeat (first | refine blk_drewN ?_ _ | refine blk_drew ?_ | refine blk_alloc ?_ _)); exact BK529.out⟩, ⟨by repeat (first | (with_reducible first | exact HB.out | apply below_alloc | apply pw_below_drewN | apply below_drew1 | refine below_set ?_ GE529.out) | exact HB.out)⟩⟩
               ·rw [if_neg c20] at H
                exact absurd H (by simp)
              ·rw [if_neg c19] at H
               exact absurd H (by simp)
            ·replace c17 := Bool.eq_false_iff.mpr c17
             subst c17
             have H1 : (spec_LoopOver.l1 k2 x3_1 t533 x5_1 x6_2 (wrap64 (x7_2 + 1))) = some r := by rw [if_neg (show ¬ (false = true) by decide)] at H; exact H
             clear H
             have H := H1
             clear H1
             have H' := Aside0.mk H
             clear H
             have p536 : 0 ≤ (x5_1 : Int) := of_decide_eq_true (by first | (with_reducible assumption) | assumption)
             have q536 : x5_1 < (t533.length : Int) := of_decide_eq_true (by first | (with_reducible assumption) | assumption)
             obtain ⟨ad536, A536_0, c536_0, e536, hx536_0, hl536_0, hi536_0⟩ := at_L9 (Kd.S_reads' HO_4.out).2.2 x5_1 p536 q536
             cases e536
             obtain ⟨ce536, hce536, hMe536, hcc536⟩ := Kd.S_get HO_4.out [] x5_1 p536 (by first | exact q536 | exact of_decide_eq_true (by first | (with_reducible assumption) | assumption) | (have e_ := (Kd.S_reads' HO_4.out).1; omega))
             obtain ⟨ve536_0, rfl, ge536_0⟩ := hMe536
             have hv536_0 := hcc536 0 _ rfl
             rw [Nat.add_zero, show ((Kd.slice 4 Kd.bool)).sz = 1 from rfl, Nat.mul_one] at hv536_0
             replace hv536_0 := Option.some.inj (hv536_0.symm.trans hx536_0)
             rw [hv536_0] at ge536_0
             have HL536_0 := Aside0.mk (show Kd.R Kd.bool 4 _ _ _ _ (rd_L9 t533 x5_1) from ge536_0)
             clear hv536_0 ge536_0
             clear hcc536 hce536
             have HR536_0 := Aside0.mk hi536_0
             have HC536_0 := Aside0.mk hl536_0
             clear hi536_0 hl536_0
             replace p536 := eq_true p536
             replace q536 := eq_true q536
             have p537 : 0 ≤ (x7_2 : Int) := of_decide_eq_true (by first | (with_reducible assumption) | assumption)
             have q537 : x7_2 < ((rd_L9 t533 x5_1).length : Int) := of_decide_eq_true (by first | (with_reducible assumption) | assumption)
             obtain ⟨ad537, e537, hx537_0⟩ := Kd.at_bool (by repeat (first | (with_reducible exact HR536_0.out) | (with_reducible refine Kd.C_alloc ?_ _) | (with_reducible refine Kd.C_drewN ?_ _) | (with_reducible refine Kd.C_drew ?_) | exact HR536_0.out)) x7_2 p537 q537
             (try rw [← Nbq16.out] at hx537_0)
             cases e537
             replace p537 := eq_true p537
             replace q537 := eq_true q537
             go_wp2
             go_roundg k2
             case measure => have := HK1.out; have := HK2.out; omega
             case rel => exact ⟨(x6_2), (wrap64 (x7_2 + 1)), (by first | rfl | (simp; done) | (simp [*]; done)), (by first | rfl | (simp; done) | (simp [*]; done)), H', ⟨by have := HK1.out; have := HK2.out; omega⟩, ⟨by (with_reducible repeat (first | apply Kd.R_alloc | apply Kd.R_drewN | apply Kd.R_drew)); exact HO_3.out⟩, ⟨by (with_reducible repeat (first | apply Kd.S_alloc | apply Kd.S_drewN | apply Kd.S_drew)); exact HO_4.out⟩, ⟨by (with_reducible repeat (first | refine blk_drewN ?_ _ | refine blk_drew ?_ | refine blk_alloc ?_ _)); exact BK529.out⟩, ⟨by repeat (first | (with_reducible first | exact HB.out | apply below_alloc | apply pw_below_drewN | apply below_drew1 | refine below_set ?_ GE529.out) | exact HB.out)⟩⟩
           ·rw [if_neg c15] at H
            exact absurd H (by simp)
          ·rw [if_neg c14] at H
           exact absurd H (by simp)
         ·rw [if_neg c13] at H
          exact absurd H (by simp)
        ·rw [if_neg c12] at H
         exact absurd H (by simp)
      ·rw [if_neg c10] at H
       have c10b0 : decide (x7_2 < (t533.length : Int)) = false := decide_eq_false c10
       clear c10
       by_cases c23 : x3_1.length < 17592186044416
       ·rw [if_pos c23] at H
        have LMc23 := Aside0.mk c23
        clear c23
        obtain ⟨y540, hy540⟩ : ∃ y_ : List Int, y_ = (x3_1 ++ [x6_2]) := ⟨_, rfl⟩
        replace H : (spec_LoopOver.l0 k2 y540 t533 (wrap64 (x5_1 + 1))) = some r := by first | (rw [hy540]; with_reducible exact H) | (have H2_ := (Option.bind_some _ _).symm.trans H; rw [hy540]; with_reducible exact H2_) | (have H2_ := (Option.bind_some _ _).symm.trans H; with_reducible exact H2_) | with_reducible exact H | (rw [hy540]; exact H) | exact H
        have Ny540 := Aside0.mk hy540
        clear hy540
        have H' := Aside0.mk H
        clear H
        go_wp2_with (first | ((with_reducible refine gate_builtin (b := .append) (xs := #[.tmp 49, .tmp 51]) rfl ?_); at_builtin; refine Kd.R_append (Kd.int .i64) (w0 := w) w.heap.size rfl (.tmp 49) (.tmp 51) 60 3 (.int .i64 0) 8 rfl Try.underlying60 info3 rfl (by decide) (by omega) u3 x3_1 x6_2 [.int .i64 x6_2] (fun _ => True) (fun _ => False) rfl rfl ?aP (fun _ hk => hk.elim) ?aF ?aO ?aB ?aS ?aL ?_; (case aP => exact rfl); (case aB => exact (by repeat (first | (with_reducible first | exact HB.out | apply below_alloc | apply pw_below_drewN | apply below_drew1 | refine below_set ?_ GE529.out) | exact HB.out))); (case aF => exact (fun _ _ => trivial)); (case aO => exact (by (with_reducible repeat (first | apply Kd.R_alloc | apply Kd.R_drewN | apply Kd.R_drew)); exact HO_3.out)); (case aS => exact (below_size (by repeat (first | (with_reducible first | exact HB.out | apply below_alloc | apply pw_below_drewN | apply below_drew1 | refine below_set ?_ GE529.out) | exact HB.out)))); (case aL => have := LMc23.out; omega); intro v541 w24 ho hb hg hat; rw [← Ny540.out] at ho; have n0_ := Aside0.mk (Kd.S_over' (by (with_reducible repeat (first | apply Kd.S_alloc | apply Kd.S_drewN | apply Kd.S_drew)); exact HO_4.out) (Kd.R_typed (by (with_reducible repeat (first | apply Kd.R_alloc | apply Kd.R_drewN | apply Kd.R_drew)); exact HO_3.out)) (by decide) hg); have n1_ := Aside0.mk (blk_grown (g := gb529) (o := .cells #[.slice A0_0 l0_0.length c0_0] 29 (0, 0)) (by (with_reducible repeat (first | refine blk_drewN ?_ _ | refine blk_drew ?_ | refine blk_alloc ?_ _)); exact BK529.out) hg (Kd.R_ne HO_3.out BK529.out (by decide))); have n2_ := Aside0.mk (hb); have n3_ := Aside0.mk (ho); clear HO_4; clear BK529; clear HB; clear HO_3; have HO_4 := n0_; have BK529 := n1_; have HB := n2_; have HO542 := n3_; clear n0_ n1_ n2_ n3_; clear ho hb hg hat))
        go_roundg k2
        case measure => have := HK1.out; have := HK2.out; omega
        case rel => exact ⟨(y540), (wrap64 (x5_1 + 1)), (by first | rfl | (simp; done) | (simp [*]; done)), H', ⟨by have := HK1.out; have := HK2.out; omega⟩, ⟨by (with_reducible repeat (first | apply Kd.R_alloc | apply Kd.R_drewN | apply Kd.R_drew)); exact HO542.out⟩, ⟨by (with_reducible repeat (first | apply Kd.S_alloc | apply Kd.S_drewN | apply Kd.S_drew)); exact HO_4.out⟩, ⟨by (with_reducible repeat (first | refine blk_drewN ?_ _ | refine blk_drew ?_ | refine blk_alloc ?_ _)); exact BK529.out⟩, ⟨by repeat (first | (with_reducible first | exact HB.out | apply below_alloc | apply pw_below_drewN | apply below_drew1 | refine below_set ?_ GE529.out) | exact HB.out)⟩⟩
       ·rw [if_neg c23] at H
        exact absurd H (by simp)
   ·rw [if_neg c8] at H
    have c8b0 : decide (x5_1 < (t533.length : Int)) = false := decide_eq_false c8
    clear c8
    obtain rfl := Option.some.inj H
    obtain ⟨Ao25, co25, eo25⟩ := Kd.S_slice HO_4.out
    subst eo25
    go_wp2
    go_ret
    exact ⟨_, by first | rfl | (simp [errW_none, errW_some] <;> rfl) | (simp [*, errW_none, errW_some] <;> rfl), by (with_reducible repeat (first | apply Kd.R_alloc | apply Kd.R_drewN | apply Kd.R_drew)); exact HO_3.out, by repeat (first | (with_reducible first | exact HB.out | apply below_alloc | apply pw_below_drewN | apply below_drew1 | refine below_set ?_ GE529.out) | exact HB.out)⟩

mutual
def impl_Prog_over.l0 : Nat → List (List Bool) → List Int → Int → Int → Option (List Int)
 | 0, _, _, _, _ => none
 | k + 1, x3, x4, x15, x16 => if x16 < x15 then (if 0 ≤ x16 then (if x16 < (x4.length : Int) then (if x16 < (x3.length : Int) then (impl_Prog_over.l1 k x3 (x4.set (x16 : Int).toNat (-1)) x16 x15 x16 (rd_L9 x3 x16) ((rd_L9 x3 x16).length : Int) 0) else (none)) else (none)) else (none)) else (some x4)
def impl_Prog_over.l1 : Nat → List (List Bool) → List Int → Int → Int → Int → List Bool → Int → Int → Option (List Int)
 | 0, _, _, _, _, _, _, _, _ => none
 | k + 1, x3, x4, x5, x15, x16, x25, x26, x27 => if x27 < x26 then (if 0 ≤ x27 then (if x27 < (x25.length : Int) then (if rdOf false x25 x27 = true then (if x27 = x5 then (impl_Prog_over.l1 k x3 x4 x5 x15 x16 x25 x26 (wrap64 (x27 + 1))) else (if 0 ≤ x5 then (if x5 < (x4.length : Int) then (if (rd x4 x5) < 0 then (impl_Prog_over.l1 k x3 (x4.set (x5 : Int).toNat x27) x5 x15 x16 x25 x26 (wrap64 (x27 + 1))) else (if x27 < (x3.length : Int) then (if 0 ≤ (rd x4 x5) then (if (rd x4 x5) < ((rd_L9 x3 x27).length : Int) then (if rdOf false (rd_L9 x3 x27) (rd x4 x5) = true then (impl_Prog_over.l1 k x3 (x4.set (x5 : Int).toNat x27) x5 x15 x16 x25 x26 (wrap64 (x27 + 1))) else (impl_Prog_over.l1 k x3 x4 x5 x15 x16 x25 x26 (wrap64 (x27 + 1)))) else (none)) else (none)) else (none))) else (none)) else (none))) else (impl_Prog_over.l1 k x3 x4 x5 x15 x16 x25 x26 (wrap64 (x27 + 1)))) else (none)) else (none)) else (impl_Prog_over.l0 k x3 x4 x15 (wrap64 (x16 + 1)))
end
def impl_Prog_over.f (k : Nat) (l0_0 : List (S68)) : Option (List Int) := (impl_Prog_doms.f k l0_0).bind fun t544 => (if 0 ≤ (l0_0.length : Int) then (if ((l0_0.length : Int) : Int).toNat ≤ 35184372088832 then ((some (List.replicate ((l0_0.length : Int) : Int).toNat 0 : List Int)).bind fun y547 => (impl_Prog_over.l0 k t544 y547 (y547.length : Int) 0)) else (none)) else (none))
set_option maxHeartbeats 8000000 in
set_option maxRecDepth 100000 in
theorem impl_Prog_over.calls (k : Nat) (A0_0 : Option Addr) (c0_0 : Nat) (l0_0 : List (S68)) (r : List Int) (w : World) (hr0_0 : Kd.C k68 w A0_0 l0_0.length l0_0) (hc0_0 : l0_0.length ≤ c0_0) (h : impl_Prog_over.f k l0_0 = some r) :
  Calls Try.prog 86 #[.agg #[.slice A0_0 l0_0.length c0_0]] w fun e w' => ∃ v0_ : Value, e = .returned (v0_) ∧ Kd.R (Kd.int .i64) 3 w' w.heap.size (fun _ => True) v0_ r ∧ Below w.heap.size w w' := by
 have hu29 := Try.underlying29
 have HR0_0 := Aside0.mk hr0_0
 have HC0_0 := Aside0.mk hc0_0
 clear hr0_0 hc0_0
 have HB := Aside0.mk (Below.refl w.heap.size w)
 have H : ((impl_Prog_doms.f k l0_0).bind fun t544 => (if 0 ≤ (l0_0.length : Int) then (if ((l0_0.length : Int) : Int).toNat ≤ 35184372088832 then ((some (List.replicate ((l0_0.length : Int) : Int).toNat 0 : List Int)).bind fun y547 => (impl_Prog_over.l0 k t544 y547 (y547.length : Int) 0)) else (none)) else (none))) = some r := h
 clear h
 replace H := Option.bind_eq_some_iff.mp H
 obtain ⟨t544, A20, H⟩ := H
 replace H : (if 0 ≤ (l0_0.length : Int) then (if ((l0_0.length : Int) : Int).toNat ≤ 35184372088832 then ((some (List.replicate ((l0_0.length : Int) : Int).toNat 0 : List Int)).bind fun y547 => (impl_Prog_over.l0 k t544 y547 (y547.length : Int) 0)) else (none)) else (none)) = some r := H
 have A2 := Aside0.mk A20
 clear A20
 by_cases c3 : 0 ≤ (l0_0.length : Int)
 ·rw [if_pos c3] at H
  have c3b0 := eq_true c3
  have c3b1 : decide (0 ≤ (l0_0.length : Int)) = true := decide_eq_true c3
  clear c3
  by_cases c4 : ((l0_0.length : Int) : Int).toNat ≤ 35184372088832
  ·rw [if_pos c4] at H
   have c4b0 := eq_true c4
   have c4b1 : decide (((l0_0.length : Int) : Int).toNat ≤ 35184372088832) = true := decide_eq_true c4
   clear c4
   obtain ⟨y547, hy547⟩ : ∃ y_ : List Int, y_ = (List.replicate ((l0_0.length : Int) : Int).toNat 0) := ⟨_, rfl⟩
   replace H : (impl_Prog_over.l0 k t544 y547 (y547.length : Int) 0) = some r := by first | (rw [hy547]; with_reducible exact H) | (have H2_ := (Option.bind_some _ _).symm.trans H; rw [hy547]; with_reducible exact H2_) | (have H2_ := (Option.bind_some _ _).symm.trans H; with_reducible exact H2_) | with_reducible exact H | (rw [hy547]; exact H) | exact H
   have Ny547 := Aside0.mk hy547
   clear hy547
   have H' := Aside0.mk H
   clear H
   go_enter Try.func86, Try.ntmps86
   go_wp2_with (first | ((with_reducible refine gate_dst (N := 1) rfl ?_); refine box_event ?hg (N := 1) ?hd (cs := #[.slice A0_0 l0_0.length c0_0]) (t := 29) ?hr ?_; (case hd => rfl); (case hg => rfl); (case hr => first | (go_simp; done) | (go_simp; rfl)); intro gb543 hg w5 hbox hb; have n_ := boxed (bel HB.out) hb hbox hg; clear HB hb hbox hg; obtain ⟨HB, BK543, GW543, GE543⟩ := n_; have hcz6_0 : w5.cell? ⟨gb543, 0, none⟩ = some (.slice A0_0 l0_0.length c0_0) := (blk_cell BK543.out 0).trans rfl; have hfz6_0 := blk_frozen BK543.out 0) | (go_at_call 85; (with_reducible refine (impl_Prog_doms.calls k _ _ l0_0 t544 _ ?side1 ?side2 A2.out).mono ?_); (case side1 => repeat (first | exact (Kd.C_below HR0_0.out HB.out) | (with_reducible refine Kd.C_alloc ?_ _) | (with_reducible refine Kd.C_drewN ?_ _) | (with_reducible refine Kd.C_drew ?_))); (case side2 => exact HC0_0.out); rintro e w7 ⟨v545, rfl, ho0, hb⟩; have n0_ := Aside0.mk (Kd.S_lower ho0 (below_size (by repeat (first | (with_reducible first | exact HB.out | apply below_alloc | apply pw_below_drewN | apply below_drew1 | refine below_set ?_ GE543.out) | exact HB.out)))); have n1_ := Aside0.mk (blk_below (g := gb543) (o := .cells #[.slice A0_0 l0_0.length c0_0] 29 (0, 0)) (by (with_reducible repeat (first | refine blk_drewN ?_ _ | refine blk_drew ?_ | refine blk_alloc ?_ _)); exact BK543.out) hb); have n2_ := Aside0.mk (below_step (by repeat (first | (with_reducible first | exact HB.out | apply below_alloc | apply pw_below_drewN | apply below_drew1 | refine below_set ?_ GE543.out) | exact HB.out)) hb); clear BK543; clear HB; have HO546 := n0_; have BK543 := n1_; have HB := n2_; clear n0_ n1_ n2_; (try clear hb); (try clear hb2); (try clear hk); (try clear hi); (try clear ho0); have hcz8_0 : w7.cell? ⟨gb543, 0, none⟩ = some (.slice A0_0 l0_0.length c0_0) := (blk_cell BK543.out 0).trans rfl; have hfz8_0 := blk_frozen BK543.out 0) | ((with_reducible refine gate_dst (N := 13) rfl ?_); refine Kd.R_make (Kd.int .i64) _ 3 rfl (N := 13) rfl 60 _ _ rfl (l0_0.length : Int) rfl rfl Try.underlying60 (.int .i64 0) 8 info3 rfl (by decide) (by omega) 0 (ok := fun _ => True) (okp := fun _ => True) rfl (fun _ hk => hk) trivial (of_decide_eq_true (by first | (with_reducible assumption) | assumption)) (Nat.le_trans (Nat.mul_le_mul_right _ (of_decide_eq_true (by first | (with_reducible assumption) | assumption) : (l0_0.length : Int).toNat ≤ 35184372088832)) (by omega)) (Below.refl _ _) (Nat.le_refl _) ?_; intro v548 w9 ho10 hb hg_ hnew_; clear hg_ hnew_; (first | rw [← Ny547.out] at ho10 | (simp only [Int.reduceToNat] at ho10; rw [← Ny547.out] at ho10)); have n0_ := Aside0.mk (Kd.S_below (by (with_reducible repeat (first | apply Kd.S_alloc | apply Kd.S_drewN | apply Kd.S_drew)); exact HO546.out) hb); have n1_ := Aside0.mk (Kd.R_lower ho10 (below_size (by repeat (first | (with_reducible first | exact HB.out | apply below_alloc | apply pw_below_drewN | apply below_drew1 | refine below_set ?_ GE543.out) | exact HB.out)))); have n2_ := Aside0.mk (blk_below (g := gb543) (o := .cells #[.slice A0_0 l0_0.length c0_0] 29 (0, 0)) (by (with_reducible repeat (first | refine blk_drewN ?_ _ | refine blk_drew ?_ | refine blk_alloc ?_ _)); exact BK543.out) hb); have n3_ := Aside0.mk (below_step (by repeat (first | (with_reducible first | exact HB.out | apply below_alloc | apply pw_below_drewN | apply below_drew1 | refine below_set ?_ GE543.out) | exact HB.out)) hb); clear HO546; clear BK543; clear HB; have HO546 := n0_; have HO549 := n1_; have BK543 := n2_; have HB := n3_; clear n0_ n1_ n2_ n3_; clear hb ho10; obtain ⟨Ao11, co11, eo11⟩ := Kd.R_slice HO549.out; subst eo11))
   repeat (go_quiet (first | ((with_reducible refine gate_dst (N := 1) rfl ?_); refine box_event ?hg (N := 1) ?hd (cs := #[.slice A0_0 l0_0.length c0_0]) (t := 29) ?hr ?_; (case hd => rfl); (case hg => rfl); (case hr => first | (go_simp; done) | (go_simp; rfl)); intro gb543 hg w5 hbox hb; have n_ := boxed (bel HB.out) hb hbox hg; clear HB hb hbox hg; obtain ⟨HB, BK543, GW543, GE543⟩ := n_; have hcz6_0 : w5.cell? ⟨gb543, 0, none⟩ = some (.slice A0_0 l0_0.length c0_0) := (blk_cell BK543.out 0).trans rfl; have hfz6_0 := blk_frozen BK543.out 0) | (go_at_call 85; (with_reducible refine (impl_Prog_doms.calls k _ _ l0_0 t544 _ ?side1 ?side2 A2.out).mono ?_); (case side1 => repeat (first | exact (Kd.C_below HR0_0.out HB.out) | (with_reducible refine Kd.C_alloc ?_ _) | (with_reducible refine Kd.C_drewN ?_ _) | (with_reducible refine Kd.C_drew ?_))); (case side2 => exact HC0_0.out); rintro e w7 ⟨v545, rfl, ho0, hb⟩; have n0_ := Aside0.mk (Kd.S_lower ho0 (below_size (by repeat (first | (with_reducible first | exact HB.out | apply below_alloc | apply pw_below_drewN | apply below_drew1 | refine below_set ?_ GE543.out) | exact HB.out)))); have n1_ := Aside0.mk (blk_below (g := gb543) (o := .cells #[.slice A0_0 l0_0.length c0_0] 29 (0, 0)) (by (with_reducible repeat (first | refine blk_drewN ?_ _ | refine blk_drew ?_ | refine blk_alloc ?_ _)); exact BK543.out) hb); have n2_ := Aside0.mk (below_step (by repeat (first | (with_reducible first | exact HB.out | apply below_alloc | apply pw_below_drewN | apply below_drew1 | refine below_set ?_ GE543.out) | exact HB.out)) hb); clear BK543; clear HB; have HO546 := n0_; have BK543 := n1_; have HB := n2_; clear n0_ n1_ n2_; (try clear hb); (try clear hb2); (try clear hk); (try clear hi); (try clear ho0); have hcz8_0 : w7.cell? ⟨gb543, 0, none⟩ = some (.slice A0_0 l0_0.length c0_0) := (blk_cell BK543.out 0).trans rfl; have hfz8_0 := blk_frozen BK543.out 0) | ((with_reducible refine gate_dst (N := 13) rfl ?_); refine Kd.R_make (Kd.int .i64) _ 3 rfl (N := 13) rfl 60 _ _ rfl (l0_0.length : Int) rfl rfl Try.underlying60 (.int .i64 0) 8 info3 rfl (by decide) (by omega) 0 (ok := fun _ => True) (okp := fun _ => True) rfl (fun _ hk => hk) trivial (of_decide_eq_true (by first | (with_reducible assumption) | assumption)) (Nat.le_trans (Nat.mul_le_mul_right _ (of_decide_eq_true (by first | (with_reducible assumption) | assumption) : (l0_0.length : Int).toNat ≤ 35184372088832)) (by omega)) (Below.refl _ _) (Nat.le_refl _) ?_; intro v548 w9 ho10 hb hg_ hnew_; clear hg_ hnew_; (first | rw [← Ny547.out] at ho10 | (simp only [Int.reduceToNat] at ho10; rw [← Ny547.out] at ho10)); have n0_ := Aside0.mk (Kd.S_below (by (with_reducible repeat (first | apply Kd.S_alloc | apply Kd.S_drewN | apply Kd.S_drew)); exact HO546.out) hb); have n1_ := Aside0.mk (Kd.R_lower ho10 (below_size (by repeat (first | (with_reducible first | exact HB.out | apply below_alloc | apply pw_below_drewN | apply below_drew1 | refine below_set ?_ GE543.out) | exact HB.out)))); have n2_ := Aside0.mk (blk_below (g := gb543) (o := .cells #[.slice A0_0 l0_0.length c0_0] 29 (0, 0)) (by (with_reducible repeat (first | refine blk_drewN ?_ _ | refine blk_drew ?_ | refine blk_alloc ?_ _)); exact BK543.out) hb); have n3_ := Aside0.mk (below_step (by repeat (first | (with_reducible first | exact HB.out | apply below_alloc | apply pw_below_drewN | apply below_drew1 | refine below_set ?_ GE543.out) | exact HB.out)) hb); clear HO546; clear BK543; clear HB; have HO546 := n0_; have HO549 := n1_; have BK543 := n2_; have HB := n3_; clear n0_ n1_ n2_ n3_; clear hb ho10; obtain ⟨Ao11, co11, eo11⟩ := Kd.R_slice HO549.out; subst eo11)); try go_wp2_with (first | ((with_reducible refine gate_dst (N := 1) rfl ?_); refine box_event ?hg (N := 1) ?hd (cs := #[.slice A0_0 l0_0.length c0_0]) (t := 29) ?hr ?_; (case hd => rfl); (case hg => rfl); (case hr => first | (go_simp; done) | (go_simp; rfl)); intro gb543 hg w5 hbox hb; have n_ := boxed (bel HB.out) hb hbox hg; clear HB hb hbox hg; obtain ⟨HB, BK543, GW543, GE543⟩ := n_; have hcz6_0 : w5.cell? ⟨gb543, 0, none⟩ = some (.slice A0_0 l0_0.length c0_0) := (blk_cell BK543.out 0).trans rfl; have hfz6_0 := blk_frozen BK543.out 0) | (go_at_call 85; (with_reducible refine (impl_Prog_doms.calls k _ _ l0_0 t544 _ ?side1 ?side2 A2.out).mono ?_); (case side1 => repeat (first | exact (Kd.C_below HR0_0.out HB.out) | (with_reducible refine Kd.C_alloc ?_ _) | (with_reducible refine Kd.C_drewN ?_ _) | (with_reducible refine Kd.C_drew ?_))); (case side2 => exact HC0_0.out); rintro e w7 ⟨v545, rfl, ho0, hb⟩; have n0_ := Aside0.mk (Kd.S_lower ho0 (below_size (by repeat (first | (with_reducible first | exact HB.out | apply below_alloc | apply pw_below_drewN | apply below_drew1 | refine below_set ?_ GE543.out) | exact HB.out)))); have n1_ := Aside0.mk (blk_below (g := gb543) (o := .cells #[.slice A0_0 l0_0.length c0_0] 29 (0, 0)) (by (with_reducible repeat (first | refine blk_drewN ?_ _ | refine blk_drew ?_ | refine blk_alloc ?_ _)); exact BK543.out) hb); have n2_ := Aside0.mk (below_step (by repeat (first | (with_reducible first | exact HB.out | apply below_alloc | apply pw_below_drewN | apply below_drew1 | refine below_set ?_ GE543.out) | exact HB.out)) hb); clear BK543; clear HB; have HO546 := n0_; have BK543 := n1_; have HB := n2_; clear n0_ n1_ n2_; (try clear hb); (try clear hb2); (try clear hk); (try clear hi); (try clear ho0); have hcz8_0 : w7.cell? ⟨gb543, 0, none⟩ = some (.slice A0_0 l0_0.length c0_0) := (blk_cell BK543.out 0).trans rfl; have hfz8_0 := blk_frozen BK543.out 0) | ((with_reducible refine gate_dst (N := 13) rfl ?_); refine Kd.R_make (Kd.int .i64) _ 3 rfl (N := 13) rfl 60 _ _ rfl (l0_0.length : Int) rfl rfl Try.underlying60 (.int .i64 0) 8 info3 rfl (by decide) (by omega) 0 (ok := fun _ => True) (okp := fun _ => True) rfl (fun _ hk => hk) trivial (of_decide_eq_true (by first | (with_reducible assumption) | assumption)) (Nat.le_trans (Nat.mul_le_mul_right _ (of_decide_eq_true (by first | (with_reducible assumption) | assumption) : (l0_0.length : Int).toNat ≤ 35184372088832)) (by omega)) (Below.refl _ _) (Nat.le_refl _) ?_; intro v548 w9 ho10 hb hg_ hnew_; clear hg_ hnew_; (first | rw [← Ny547.out] at ho10 | (simp only [Int.reduceToNat] at ho10; rw [← Ny547.out] at ho10)); have n0_ := Aside0.mk (Kd.S_below (by (with_reducible repeat (first | apply Kd.S_alloc | apply Kd.S_drewN | apply Kd.S_drew)); exact HO546.out) hb); have n1_ := Aside0.mk (Kd.R_lower ho10 (below_size (by repeat (first | (with_reducible first | exact HB.out | apply below_alloc | apply pw_below_drewN | apply below_drew1 | refine below_set ?_ GE543.out) | exact HB.out)))); have n2_ := Aside0.mk (blk_below (g := gb543) (o := .cells #[.slice A0_0 l0_0.length c0_0] 29 (0, 0)) (by (with_reducible repeat (first | refine blk_drewN ?_ _ | refine blk_drew ?_ | refine blk_alloc ?_ _)); exact BK543.out) hb); have n3_ := Aside0.mk (below_step (by repeat (first | (with_reducible first | exact HB.out | apply below_alloc | apply pw_below_drewN | apply below_drew1 | refine below_set ?_ GE543.out) | exact HB.out)) hb); clear HO546; clear BK543; clear HB; have HO546 := n0_; have HO549 := n1_; have BK543 := n2_; have HB := n3_; clear n0_ n1_ n2_ n3_; clear hb ho10; obtain ⟨Ao11, co11, eo11⟩ := Kd.R_slice HO549.out; subst eo11)))
   go_loopg [16] k (fun kq v16 w' => ∃ (x4_1 : List Int) (x16_1 : Int), v16 = .int .i64 x16_1 ∧ Aside0 (impl_Prog_over.l0 kq t544 x4_1 (y547.length : Int) x16_1 = some r) ∧ Aside0 (kq ≤ k) ∧ Aside0 (Kd.S (Kd.slice 4 Kd.bool) 33 w' w.heap.size (fun _ => True) v545 t544) ∧ Aside0 (Kd.R (Kd.int .i64) 3 w' w.heap.size (fun _ => True) (.slice Ao11 y547.length co11) x4_1) ∧ Aside0 (w'.heap[gb543]? = some (.cells #[(.slice A0_0 l0_0.length c0_0)] 29 (0, 0))) ∧ Aside0 (Below w.heap.size w w'))
   case atStart => exact ⟨(y547), (0), (by first | rfl | (simp; done) | (simp [*]; done)), H', ⟨Nat.le_refl _⟩, ⟨by (with_reducible repeat (first | apply Kd.S_alloc | apply Kd.S_drewN | apply Kd.S_drew)); exact HO546.out⟩, ⟨by (with_reducible repeat (first | apply Kd.R_alloc | apply Kd.R_drewN | apply Kd.R_drew)); exact HO549.out⟩, ⟨by (with_reducible repeat (first | refine blk_drewN ?_ _ | refine blk_drew ?_ | refine blk_alloc ?_ _)); exact BK543.out⟩, ⟨by repeat (first | (with_reducible first | exact HB.out | apply below_alloc | apply pw_below_drewN | apply below_drew1 | refine below_set ?_ GE543.out) | exact HB.out)⟩⟩
   case round =>
    clear H'
    (try clear c3); (try clear c3b0); (try clear c3b1); (try clear c4); (try clear c4b0); (try clear c4b1); (try clear hcz6_0); (try clear hcz8_0); (try clear hfz6_0); (try clear hfz8_0)
    obtain ⟨x4_1, x16_1, rfl, HA, HK1, HO_3, HO_4, BK543, HB⟩ := hrel
    have hl4_1 := (Kd.R_reads' HO_4.out).1
    rw [hl4_1] at HO_4
    (try simp only [hl4_1])
    (try simp only [hl4_1] at BK543)
    (try simp only [hl4_1] at HO_3)
    cases gk with
    | zero => exact absurd HA.out (by simp [impl_Prog_over.l0])
    | succ k1 =>
     have H := HA.out
     clear HA
     simp only [impl_Prog_over.l0] at H
     by_cases c12 : x16_1 < (y547.length : Int)
     ·rw [if_pos c12] at H
      have c12b0 : decide (x16_1 < (y547.length : Int)) = true := decide_eq_true c12
      clear c12
      by_cases c13 : 0 ≤ x16_1
      ·rw [if_pos c13] at H
       have c13b0 : decide (0 ≤ x16_1) = true := decide_eq_true c13
       clear c13
       by_cases c14 : x16_1 < (x4_1.length : Int)
       ·rw [if_pos c14] at H
        have c14b0 : decide (x16_1 < (x4_1.length : Int)) = true := decide_eq_true c14
        clear c14
        obtain ⟨y550, hy550⟩ : ∃ y_ : List Int, y_ = (x4_1.set (x16_1 : Int).toNat (-1)) := ⟨_, rfl⟩
        replace H : (if x16_1 < (t544.length : Int) then (impl_Prog_over.l1 k1 t544 y550 x16_1 (y547.length : Int) x16_1 (rd_L9 t544 x16_1) ((rd_L9 t544 x16_1).length : Int) 0) else (none)) = some r := by first | (rw [hy550]; with_reducible exact H) | (have H2_ := (Option.bind_some _ _).symm.trans H; rw [hy550]; with_reducible exact H2_) | (have H2_ := (Option.bind_some _ _).symm.trans H; with_reducible exact H2_) | with_reducible exact H | (rw [hy550]; exact H) | exact H
        have Ny550 := Aside0.mk hy550
        clear hy550
        by_cases c16 : x16_1 < (t544.length : Int)
        ·rw [if_pos c16] at H
         have c16b0 : decide (x16_1 < (t544.length : Int)) = true := decide_eq_true c16
         clear c16
         have H' := Aside0.mk H
         clear H
         have p15 : 0 ≤ (x16_1 : Int) := of_decide_eq_true (by first | (with_reducible assumption) | assumption)
         have q15 : (x16_1 : Int) < ((x4_1.length : Int) : Int) := of_decide_eq_true (by first | (with_reducible assumption) | assumption)
         obtain ⟨go15, co15, eo15, gb15, gl15, cl15, HG15⟩ := Kd.R_form HO_4.out (by omega)
         (first | cases eo15 | (injection eo15 with ea_ en_ ec_; (first | subst ea_ | (injection ea_ with ea_; subst ea_)); subst ec_; clear en_))
         have GB15 := Aside0.mk gb15
         have GG15 := Aside0.mk HG15
         clear gb15 gl15 HG15
         obtain ⟨hx15_0, hf15_0⟩ := Kd.R_celln 0 HO_4.out (x16_1 : Int) p15 q15
         replace p15 := eq_true p15
         replace q15 := eq_true q15
         have HP17 := Kd.R_putg HO_4.out (x16_1 : Int) (-1)
         go_wp2_with (first | ((with_reducible refine gate_store (t := 3) (p := 21) rfl ?_); (try (rw [drewN_self wr]; generalize hq_ : World.drewN wr _ = wr; have n0_ := Aside0.mk (Kd.S_at hq_ HO_3.out); have n1_ := Aside0.mk (Kd.R_at hq_ HO_4.out); have n2_ := Aside0.mk (blk_at hq_ BK543.out); have n3_ := Aside0.mk (below_at hq_ HB.out); clear hq_ HO_3 HO_4 BK543 HB; have HO_3 := n0_; have HO_4 := n1_; have BK543 := n2_; have HB := n3_; clear n0_ n1_ n2_ n3_; (try (have HP17 := Kd.R_putg HO_4.out (x16_1 : Int) (-1))); (try (obtain ⟨hx17_0, hf17_0⟩ := Kd.R_celln 0 HO_4.out (x16_1 : Int) (of_decide_eq_true (by first | (with_reducible assumption) | assumption)) (of_decide_eq_true (by first | (with_reducible assumption) | assumption)))))); refine store_event (t := 3) (p := 21) (v := ?vo_w18) (w1 := (wr.setCell ⟨go15, (x16_1 : Int).toNat, none⟩ (.int .i64 (-1)))) ?hg ?ho ?hn ?hr ?_; (case ho => rfl); (case hg => rfl); (case hn => rfl); (case hr => first | (go_simp; done) | (go_simp; rfl)); intro w18 hw; have hg : wr.grownBy w18 (some go15) := (by rw [hw]; exact HP17.2); have hp_ : Kd.R (Kd.int .i64) 3 w18 w.heap.size (fun _ => True) (.slice (some ⟨go15, 0, none⟩) x4_1.length co11) y550 := (by rw [hw, Ny550.out]; exact HP17.1); clear HP17; have n0_ := Aside0.mk (Kd.S_over' (v := (.slice (some ⟨go15, 0, none⟩) x4_1.length co11)) (by (with_reducible repeat (first | apply Kd.S_alloc | apply Kd.S_drewN | apply Kd.S_drew)); exact HO_3.out) (Kd.R_typed HO_4.out) (by decide) hg); have n1_ := Aside0.mk (hp_); have n2_ := Aside0.mk (blk_grown (g := gb543) (o := .cells #[.slice A0_0 l0_0.length c0_0] 29 (0, 0)) (by (with_reducible repeat (first | refine blk_drewN ?_ _ | refine blk_drew ?_ | refine blk_alloc ?_ _)); exact BK543.out) hg (Kd.R_ne HO_4.out BK543.out (by decide))); have n3_ := Aside0.mk ((by rw [hw]; exact below_set (HB.out) GB15.out : Below w.heap.size w w18)); clear HO_3; clear HO_4; clear BK543; clear HB; have HO_3 := n0_; have HO_4 := n1_; have BK543 := n2_; have HB := n3_; clear n0_ n1_ n2_ n3_; clear hg hw hp_; obtain ⟨Ao19, co19, eo19⟩ := Kd.S_slice HO_3.out; subst eo19; have p551 : 0 ≤ (x16_1 : Int) := of_decide_eq_true (by first | (with_reducible assumption) | assumption); have q551 : x16_1 < (t544.length : Int) := of_decide_eq_true (by first | (with_reducible assumption) | assumption); obtain ⟨ad551, A551_0, c551_0, e551, hx551_0, hl551_0, hi551_0⟩ := at_L9 (Kd.S_reads' HO_3.out).2.2 x16_1 p551 q551; cases e551; obtain ⟨ce551, hce551, hMe551, hcc551⟩ := Kd.S_get HO_3.out [] x16_1 p551 (by first | exact q551 | exact of_decide_eq_true (by first | (with_reducible assumption) | assumption) | (have e_ := (Kd.S_reads' HO_3.out).1; omega)); obtain ⟨ve551_0, rfl, ge551_0⟩ := hMe551; have hv551_0 := hcc551 0 _ rfl; rw [Nat.add_zero, show ((Kd.slice 4 Kd.bool)).sz = 1 from rfl, Nat.mul_one] at hv551_0; replace hv551_0 := Option.some.inj (hv551_0.symm.trans hx551_0); rw [hv551_0] at ge551_0; have HL551_0 := Aside0.mk (show Kd.R Kd.bool 4 _ _ _ _ (rd_L9 t544 x16_1) from ge551_0); clear hv551_0 ge551_0; clear hcc551 hce551; have HR551_0 := Aside0.mk hi551_0; have HC551_0 := Aside0.mk hl551_0; clear hi551_0 hl551_0; replace p551 := eq_true p551; replace q551 := eq_true q551))
         repeat (go_quiet (first | ((with_reducible refine gate_store (t := 3) (p := 21) rfl ?_); (try (rw [drewN_self wr]; generalize hq_ : World.drewN wr _ = wr; have n0_ := Aside0.mk (Kd.S_at hq_ HO_3.out); have n1_ := Aside0.mk (Kd.R_at hq_ HO_4.out); have n2_ := Aside0.mk (blk_at hq_ BK543.out); have n3_ := Aside0.mk (below_at hq_ HB.out); clear hq_ HO_3 HO_4 BK543 HB; have HO_3 := n0_; have HO_4 := n1_; have BK543 := n2_; have HB := n3_; clear n0_ n1_ n2_ n3_; (try (have HP17 := Kd.R_putg HO_4.out (x16_1 : Int) (-1))); (try (obtain ⟨hx17_0, hf17_0⟩ := Kd.R_celln 0 HO_4.out (x16_1 : Int) (of_decide_eq_true (by first | (with_reducible assumption) | assumption)) (of_decide_eq_true (by first | (with_reducible assumption) | assumption)))))); refine store_event (t := 3) (p := 21) (v := ?vo_w18) (w1 := (wr.setCell ⟨go15, (x16_1 : Int).toNat, none⟩ (.int .i64 (-1)))) ?hg ?ho ?hn ?hr ?_; (case ho => rfl); (case hg => rfl); (case hn => rfl); (case hr => first | (go_simp; done) | (go_simp; rfl)); intro w18 hw; have hg : wr.grownBy w18 (some go15) := (by rw [hw]; exact HP17.2); have hp_ : Kd.R (Kd.int .i64) 3 w18 w.heap.size (fun _ => True) (.slice (some ⟨go15, 0, none⟩) x4_1.length co11) y550 := (by rw [hw, Ny550.out]; exact HP17.1); clear HP17; have n0_ := Aside0.mk (Kd.S_over' (v := (.slice (some ⟨go15, 0, none⟩) x4_1.length co11)) (by (with_reducible repeat (first | apply Kd.S_alloc | apply Kd.S_drewN | apply Kd.S_drew)); exact HO_3.out) (Kd.R_typed HO_4.out) (by decide) hg); have n1_ := Aside0.mk (hp_); have n2_ := Aside0.mk (blk_grown (g := gb543) (o := .cells #[.slice A0_0 l0_0.length c0_0] 29 (0, 0)) (by (with_reducible repeat (first | refine blk_drewN ?_ _ | refine blk_drew ?_ | refine blk_alloc ?_ _)); exact BK543.out) hg (Kd.R_ne HO_4.out BK543.out (by decide))); have n3_ := Aside0.mk ((by rw [hw]; exact below_set (HB.out) GB15.out : Below w.heap.size w w18)); clear HO_3; clear HO_4; clear BK543; clear HB; have HO_3 := n0_; have HO_4 := n1_; have BK543 := n2_; have HB := n3_; clear n0_ n1_ n2_ n3_; clear hg hw hp_; obtain ⟨Ao19, co19, eo19⟩ := Kd.S_slice HO_3.out; subst eo19; have p551 : 0 ≤ (x16_1 : Int) := of_decide_eq_true (by first | (with_reducible assumption) | assumption); have q551 : x16_1 < (t544.length : Int) := of_decide_eq_true (by first | (with_reducible assumption) | assumption); obtain ⟨ad551, A551_0, c551_0, e551, hx551_0, hl551_0, hi551_0⟩ := at_L9 (Kd.S_reads' HO_3.out).2.2 x16_1 p551 q551; cases e551; obtain ⟨ce551, hce551, hMe551, hcc551⟩ := Kd.S_get HO_3.out [] x16_1 p551 (by first | exact q551 | exact of_decide_eq_true (by first | (with_reducible assumption) | assumption) | (have e_ := (Kd.S_reads' HO_3.out).1; omega)); obtain ⟨ve551_0, rfl, ge551_0⟩ := hMe551; have hv551_0 := hcc551 0 _ rfl; rw [Nat.add_zero, show ((Kd.slice 4 Kd.bool)).sz = 1 from rfl, Nat.mul_one] at hv551_0; replace hv551_0 := Option.some.inj (hv551_0.symm.trans hx551_0); rw [hv551_0] at ge551_0; have HL551_0 := Aside0.mk (show Kd.R Kd.bool 4 _ _ _ _ (rd_L9 t544 x16_1) from ge551_0); clear hv551_0 ge551_0; clear hcc551 hce551; have HR551_0 := Aside0.mk hi551_0; have HC551_0 := Aside0.mk hl551_0; clear hi551_0 hl551_0; replace p551 := eq_true p551; replace q551 := eq_true q551)); try go_wp2_with (first | ((with_reducible refine gate_store (t := 3) (p := 21) rfl ?_); (try (rw [drewN_self wr]; generalize hq_ : World.drewN wr _ = wr; have n0_ := Aside0.mk (Kd.S_at hq_ HO_3.out); have n1_ := Aside0.mk (Kd.R_at hq_ HO_4.out); have n2_ := Aside0.mk (blk_at hq_ BK543.out); have n3_ := Aside0.mk (below_at hq_ HB.out); clear hq_ HO_3 HO_4 BK543 HB; have HO_3 := n0_; have HO_4 := n1_; have BK543 := n2_; have HB := n3_; clear n0_ n1_ n2_ n3_; (try (have HP17 := Kd.R_putg HO_4.out (x16_1 : Int) (-1))); (try (obtain ⟨hx17_0, hf17_0⟩ := Kd.R_celln 0 HO_4.out (x16_1 : Int) (of_decide_eq_true (by first | (with_reducible assumption) | assumption)) (of_decide_eq_true (by first | (with_reducible assumption) | assumption)))))); refine store_event (t := 3) (p := 21) (v := ?vo_w18) (w1 := (wr.setCell ⟨go15, (x16_1 : Int).toNat, none⟩ (.int .i64 (-1)))) ?hg ?ho ?hn ?hr ?_; (case ho => rfl); (case hg => rfl); (case hn => rfl); (case hr => first | (go_simp; done) | (go_simp; rfl)); intro w18 hw; have hg : wr.grownBy w18 (some go15) := (by rw [hw]; exact HP17.2); have hp_ : Kd.R (Kd.int .i64) 3 w18 w.heap.size (fun _ => True) (.slice (some ⟨go15, 0, none⟩) x4_1.length co11) y550 := (by rw [hw, Ny550.out]; exact HP17.1); clear HP17; have n0_ := Aside0.mk (Kd.S_over' (v := (.slice (some ⟨go15, 0, none⟩) x4_1.length co11)) (by (with_reducible repeat (first | apply Kd.S_alloc | apply Kd.S_drewN | apply Kd.S_drew)); exact HO_3.out) (Kd.R_typed HO_4.out) (by decide) hg); have n1_ := Aside0.mk (hp_); have n2_ := Aside0.mk (blk_grown (g := gb543) (o := .cells #[.slice A0_0 l0_0.length c0_0] 29 (0, 0)) (by (with_reducible repeat (first | refine blk_drewN ?_ _ | refine blk_drew ?_ | refine blk_alloc ?_ _)); exact BK543.out) hg (Kd.R_ne HO_4.out BK543.out (by decide))); have n3_ := Aside0.mk ((by rw [hw]; exact below_set (HB.out) GB15.out : Below w.heap.size w w18)); clear HO_3; clear HO_4; clear BK543; clear HB; have HO_3 := n0_; have HO_4 := n1_; have BK543 := n2_; have HB := n3_; clear n0_ n1_ n2_ n3_; clear hg hw hp_; obtain ⟨Ao19, co19, eo19⟩ := Kd.S_slice HO_3.out; subst eo19; have p551 : 0 ≤ (x16_1 : Int) := of_decide_eq_true (by first | (with_reducible assumption) | assumption); have q551 : x16_1 < (t544.length : Int) := of_decide_eq_true (by first | (with_reducible assumption) | assumption); obtain ⟨ad551, A551_0, c551_0, e551, hx551_0, hl551_0, hi551_0⟩ := at_L9 (Kd.S_reads' HO_3.out).2.2 x16_1 p551 q551; cases e551; obtain ⟨ce551, hce551, hMe551, hcc551⟩ := Kd.S_get HO_3.out [] x16_1 p551 (by first | exact q551 | exact of_decide_eq_true (by first | (with_reducible assumption) | assumption) | (have e_ := (Kd.S_reads' HO_3.out).1; omega)); obtain ⟨ve551_0, rfl, ge551_0⟩ := hMe551; have hv551_0 := hcc551 0 _ rfl; rw [Nat.add_zero, show ((Kd.slice 4 Kd.bool)).sz = 1 from rfl, Nat.mul_one] at hv551_0; replace hv551_0 := Option.some.inj (hv551_0.symm.trans hx551_0); rw [hv551_0] at ge551_0; have HL551_0 := Aside0.mk (show Kd.R Kd.bool 4 _ _ _ _ (rd_L9 t544 x16_1) from ge551_0); clear hv551_0 ge551_0; clear hcc551 hce551; have HR551_0 := Aside0.mk hi551_0; have HC551_0 := Aside0.mk hl551_0; clear hi551_0 hl551_0; replace p551 := eq_true p551; replace q551 := eq_true q551)))
         go_loopg [27] k1 (fun kq v27 w' => ∃ (x4_2 : List Int) (x27_2 : Int), v27 = .int .i64 x27_2 ∧ Aside0 (impl_Prog_over.l1 kq t544 x4_2 x16_1 (y547.length : Int) x16_1 (rd_L9 t544 x16_1) ((rd_L9 t544 x16_1).length : Int) x27_2 = some r) ∧ Aside0 (kq ≤ k1) ∧ Aside0 (Kd.S (Kd.slice 4 Kd.bool) 33 w' w.heap.size (fun _ => True) (.slice (some ad551) t544.length co19) t544) ∧ Aside0 (Kd.R (Kd.int .i64) 3 w' w.heap.size (fun _ => True) (.slice (some ⟨go15, 0, none⟩) x4_1.length co11) x4_2) ∧ Aside0 (w'.heap[gb543]? = some (.cells #[(.slice A0_0 l0_0.length c0_0)] 29 (0, 0))) ∧ Aside0 (Below w.heap.size w w') ∧ Aside0 (Kd.R Kd.bool 4 w' w.heap.size (fun k_ => True ∧ some k_ ≠ (Value.slice (some ad551) t544.length co19).ownBlock) (.slice A551_0 (rd_L9 t544 x16_1).length c551_0) (rd_L9 t544 x16_1)))
         case atStart => exact ⟨(y550), (0), (by first | rfl | (simp; done) | (simp [*]; done)), H', ⟨Nat.le_refl _⟩, ⟨by (try simp only [hl4_1]); (with_reducible repeat (first | apply Kd.S_alloc | apply Kd.S_drewN | apply Kd.S_drew)); exact HO_3.out⟩, ⟨by (try simp only [hl4_1]); (with_reducible repeat (first | apply Kd.R_alloc | apply Kd.R_drewN | apply Kd.R_drew)); exact HO_4.out⟩, ⟨by (try simp only [hl4_1]); (with_reducible repeat (first | refine blk_drewN ?_ _ | refine blk_drew ?_ | refine blk_alloc ?_ _)); exact BK543.out⟩, ⟨by repeat (first | (with_reducible first | exact HB.out | apply below_alloc | apply pw_below_drewN | apply below_drew1 | refine below_set ?_ GE543.out) | exact HB.out)⟩, ⟨by (try simp only [hl4_1]); (try simp only [hl4_2]); (try simp only [hl551_0]); (try simp only [hl555_0]); (with_reducible repeat (first | apply Kd.R_alloc | apply Kd.R_drewN | apply Kd.R_drew)); exact HL551_0.out⟩⟩
         case round =>
          clear H'
          (try clear c3); (try clear c3b0); (try clear c3b1); (try clear c4); (try clear c4b0); (try clear c4b1); (try clear c12); (try clear c12b0); (try clear c13); (try clear c13b0); (try clear c14); (try clear c14b0); (try clear p15); (try clear q15); (try clear c16); (try clear c16b0); (try clear hcz6_0); (try clear hcz8_0); (try clear hfz6_0); (try clear hfz8_0); (try clear hx15_0); (try clear hx551_0); (try clear p551); (try clear q551)
          obtain ⟨x4_2, x27_2, rfl, HA, HK2, HO_3, HO_4, BK543, HB, HL551_0⟩ := hrel
          have hl4_2 := (Kd.R_reads' HO_4.out).1
          rw [hl4_2] at HO_4
          (try simp only [hl4_2])
          (try simp only [hl4_2] at BK543)
          (try simp only [hl4_2] at HO_3)
          cases gk with
          | zero => exact absurd HA.out (by simp [impl_Prog_over.l1])
          | succ k2 =>
           have H := HA.out
           clear HA
           simp only [impl_Prog_over.l1] at H
           by_cases c20 : x27_2 < ((rd_L9 t544 x16_1).length : Int)
           ·rw [if_pos c20] at H
            have c20b0 : decide (x27_2 < ((rd_L9 t544 x16_1).length : Int)) = true := decide_eq_true c20
            clear c20
            by_cases c21 : 0 ≤ x27_2
            ·rw [if_pos c21] at H
             have c21b0 : decide (0 ≤ x27_2) = true := decide_eq_true c21
             clear c21
             by_cases c22 : x27_2 < ((rd_L9 t544 x16_1).length : Int)
             ·rw [if_pos c22] at H
              have c22b0 : decide (x27_2 < ((rd_L9 t544 x16_1).length : Int)) = true := decide_eq_true c22
              clear c22
              obtain ⟨bq23, hbq23⟩ : ∃ b_ : Bool, b_ = (rdOf false (rd_L9 t544 x16_1) x27_2) := ⟨_, rfl⟩
              replace H : (if bq23 = true then (if x27_2 = x16_1 then (impl_Prog_over.l1 k2 t544 x4_2 x16_1 (y547.length : Int) x16_1 (rd_L9 t544 x16_1) ((rd_L9 t544 x16_1).length : Int) (wrap64 (x27_2 + 1))) else (if 0 ≤ x16_1 then (if x16_1 < (x4_2.length : Int) then (if (rd x4_2 x16_1) < 0 then (impl_Prog_over.l1 k2 t544 (x4_2.set (x16_1 : Int).toNat x27_2) x16_1 (y547.length : Int) x16_1 (rd_L9 t544 x16_1) ((rd_L9 t544 x16_1).length : Int) (wrap64 (x27_2 + 1))) else (if x27_2 < (t544.length : Int) then (if 0 ≤ (rd x4_2 x16_1) then (if (rd x4_2 x16_1) < ((rd_L9 t544 x27_2).length : Int) then (if rdOf false (rd_L9 t544 x27_2) (rd x4_2 x16_1) = true then (impl_Prog_over.l1 k2 t544 (x4_2.set (x16_1 : Int).toNat x27_2) x16_1 (y547.length : Int) x16_1 (rd_L9 t544 x16_1) ((rd_L9 t544 x16_1).length : Int) (wrap64 (x27_2 + 1))) else (impl_Prog_over.l1 k2 t544 x4_2 x16_1 (y547.length : Int) x16_1 (rd_L9 t544 x16_1) ((rd_L9 t544 x16_1).length : Int) (wrap64 (x27_2 + 1)))) else (none)) else (none)) else (none))) else (none)) else (none))) else (impl_Prog_over.l1 k2 t544 x4_2 x16_1 (y547.length : Int) x16_1 (rd_L9 t544 x16_1) ((rd_L9 t544 x16_1).length : Int) (wrap64 (x27_2 + 1)))) = some r := by rw [← hbq23] at H; exact H
              have Nbq23 := Aside0.mk hbq23
              clear hbq23
              by_cases c24 : bq23 = true
              ·subst c24
               have H1 : (if x27_2 = x16_1 then (impl_Prog_over.l1 k2 t544 x4_2 x16_1 (y547.length : Int) x16_1 (rd_L9 t544 x16_1) ((rd_L9 t544 x16_1).length : Int) (wrap64 (x27_2 + 1))) else (if 0 ≤ x16_1 then (if x16_1 < (x4_2.length : Int) then (if (rd x4_2 x16_1) < 0 then (impl_Prog_over.l1 k2 t544 (x4_2.set (x16_1 : Int).toNat x27_2) x16_1 (y547.length : Int) x16_1 (rd_L9 t544 x16_1) ((rd_L9 t544 x16_1).length : Int) (wrap64 (x27_2 + 1))) else (if x27_2 < (t544.length : Int) then (if 0 ≤ (rd x4_2 x16_1) then (if (rd x4_2 x16_1) < ((rd_L9 t544 x27_2).length : Int) then (if rdOf false (rd_L9 t544 x27_2) (rd x4_2 x16_1) = true then (impl_Prog_over.l1 k2 t544 (x4_2.set (x16_1 : Int).toNat x27_2) x16_1 (y547.length : Int) x16_1 (rd_L9 t544 x16_1) ((rd_L9 t544 x16_1).length : Int) (wrap64 (x27_2 + 1))) else (impl_Prog_over.l1 k2 t544 x4_2 x16_1 (y547.length : Int) x16_1 (rd_L9 t544 x16_1) ((rd_L9 t544 x16_1).length : Int) (wrap64 (x27_2 + 1)))) else (none)) else (none)) else (none))) else (none)) else (none))) = some r := by rw [if_pos rfl] at H; exact H
               clear H
               have H := H1
               clear H1
               by_cases c25 : x27_2 = x16_1
               ·rw [if_pos c25] at H
                have c25b0 : (x27_2 == x16_1) = true := beq_iff_eq.mpr c25
                have c25b1 : (x27_2 != x16_1) = false := bne_eq_false_iff_eq.mpr c25
                clear c25
                have H' := Aside0.mk H
                clear H
                have p552 : 0 ≤ (x27_2 : Int) := of_decide_eq_true (by first | (with_reducible assumption) | assumption)
                have q552 : x27_2 < ((rd_L9 t544 x16_1).length : Int) := of_decide_eq_true (by first | (with_reducible assumption) | assumption)
                obtain ⟨ad552, e552, hx552_0⟩ := Kd.at_bool (Kd.R_reads' HL551_0.out).2.2 x27_2 p552 q552
                (try rw [← Nbq23.out] at hx552_0)
                cases e552
                skip
                replace p552 := eq_true p552
                replace q552 := eq_true q552
                go_wp2
                repeat (go_quiet (fail); try go_wp2)
                (try simp only [← hl4_2])
                go_roundg k2
                case measure => have := HK1.out; have := HK2.out; omega
                case rel => exact ⟨(x4_2), (wrap64 (x27_2 + 1)), (by first | rfl | (simp; done) | (simp [*]; done)), H', ⟨by have := HK1.out; have := HK2.out; omega⟩, ⟨by (try simp only [hl4_1]); (try simp only [hl4_2]); (with_reducible repeat (first | apply Kd.S_alloc | apply Kd.S_drewN | apply Kd.S_drew)); exact HO_3.out⟩, ⟨by (try simp only [hl4_1]); (try simp only [hl4_2]); (with_reducible repeat (first | apply Kd.R_alloc | apply Kd.R_drewN | apply Kd.R_drew)); exact HO_4.out⟩, ⟨by (try simp only [hl4_1]); (try simp only [hl4_2]); (with_reducible repeat (first | refine blk_drewN ?_ _ | refine blk_drew ?_ | refine blk_alloc ?_ _)); exact BK543.out⟩, ⟨by repeat (first | (with_reducible first | exact HB.out | apply below_alloc | apply pw_below_drewN | apply below_drew1 | refine below_set ?_ GE543.out) | exact HB.out)⟩, ⟨by (try simp only [hl4_1]); (try simp only [hl4_2]); (try simp only [hl551_0]); (try simp only [hl555_0]); (with_reducible repeat (first | apply Kd.R_alloc | apply Kd.R_drewN | apply Kd.R_drew)); exact HL551_0.out⟩⟩
               ·rw [if_neg c25] at H
                have c25b0 : (x27_2 == x16_1) = false := beq_eq_false_iff_ne.mpr c25
                have c25b1 : (x27_2 != x16_1) = true := bne_iff_ne.mpr c25
                by_cases c26 : 0 ≤ x16_1
                ·rw [if_pos c26] at H
                 have c26b0 : decide (0 ≤ x16_1) = true := decide_eq_true c26
                 clear c26
                 by_cases c27 : x16_1 < (x4_2.length : Int)
                 ·rw [if_pos c27] at H
                  have c27b0 : decide (x16_1 < (x4_2.length : Int)) = true := decide_eq_true c27
                  clear c27
                  by_cases c28 : (rd x4_2 x16_1) < 0
                  ·rw [if_pos c28] at H
                   have c28b0 : decide ((rd x4_2 x16_1) < 0) = true := decide_eq_true c28
                   clear c28
                   obtain ⟨y554, hy554⟩ : ∃ y_ : List Int, y_ = (x4_2.set (x16_1 : Int).toNat x27_2) := ⟨_, rfl⟩
                   replace H : (impl_Prog_over.l1 k2 t544 y554 x16_1 (y547.length : Int) x16_1 (rd_L9 t544 x16_1) ((rd_L9 t544 x16_1).length : Int) (wrap64 (x27_2 + 1))) = some r := by first | (rw [hy554]; with_reducible exact H) | (have H2_ := (Option.bind_some _ _).symm.trans H; rw [hy554]; with_reducible exact H2_) | (have H2_ := (Option.bind_some _ _).symm.trans H; with_reducible exact H2_) | with_reducible exact H | (rw [hy554]; exact H) | exact H
                   have Ny554 := Aside0.mk hy554
                   clear hy554
                   have H' := Aside0.mk H
                   clear H
                   have p552 : 0 ≤ (x27_2 : Int) := of_decide_eq_true (by first | (with_reducible assumption) | assumption)
                   have q552 : x27_2 < ((rd_L9 t544 x16_1).length : Int) := of_decide_eq_true (by first | (with_reducible assumption) | assumption)
                   obtain ⟨ad552, e552, hx552_0⟩ := Kd.at_bool (Kd.R_reads' HL551_0.out).2.2 x27_2 p552 q552
                   (try rw [← Nbq23.out] at hx552_0)
                   cases e552
                   skip
                   replace p552 := eq_true p552
                   replace q552 := eq_true q552
                   have p553 : 0 ≤ (x16_1 : Int) := of_decide_eq_true (by first | (with_reducible assumption) | assumption)
                   have q553 : x16_1 < (x4_2.length : Int) := of_decide_eq_true (by first | (with_reducible assumption) | assumption)
                   try (obtain ⟨Av_, cv_, ev_⟩ := Kd.R_slice HO_4.out; subst ev_)
                   obtain ⟨ad553, e553, hx553_0⟩ := Kd.at_int (Kd.R_reads' HO_4.out).2.2 x16_1 p553 q553
                   obtain rfl : (⟨go15, 0, none⟩ : Addr) = ad553 := (by injection e553)
                   (first | simp only [add_plain] at hx553_0 | simp only [add_at] at hx553_0 | simp only [Addr.add, Nat.zero_add] at hx553_0 | skip)
                   replace p553 := eq_true p553
                   replace q553 := eq_true q553
                   have p29 : 0 ≤ (x16_1 : Int) := of_decide_eq_true (by first | (with_reducible assumption) | assumption)
                   have q29 : (x16_1 : Int) < ((x4_2.length : Int) : Int) := of_decide_eq_true (by first | (with_reducible assumption) | assumption)
                   obtain ⟨hx29_0, hf29_0⟩ := Kd.R_celln 0 HO_4.out (x16_1 : Int) p29 q29
                   replace p29 := eq_true p29
                   replace q29 := eq_true q29
                   have HP30 := Kd.R_putg HO_4.out (x16_1 : Int) x27_2
                   go_wp2_with (first | ((with_reducible refine gate_store (t := 3) (p := 60) rfl ?_); (try (rw [drewN_self wr]; generalize hq_ : World.drewN wr _ = wr; have n0_ := Aside0.mk (Kd.S_at hq_ HO_3.out); have n1_ := Aside0.mk (Kd.R_at hq_ HO_4.out); have n2_ := Aside0.mk (blk_at hq_ BK543.out); have n3_ := Aside0.mk (below_at hq_ HB.out); have n9_ := Aside0.mk (Kd.R_at hq_ HL551_0.out); clear hq_ HL551_0 HO_3 HO_4 BK543 HB; have HL551_0 := n9_; have HO_3 := n0_; have HO_4 := n1_; have BK543 := n2_; have HB := n3_; clear n9_ n0_ n1_ n2_ n3_; (try (have HP30 := Kd.R_putg HO_4.out (x16_1 : Int) x27_2)); (try (obtain ⟨hx30_0, hf30_0⟩ := Kd.R_celln 0 HO_4.out (x16_1 : Int) (of_decide_eq_true (by first | (with_reducible assumption) | assumption)) (of_decide_eq_true (by first | (with_reducible assumption) | assumption)))))); refine store_event (t := 3) (p := 60) (v := ?vo_w31) (w1 := (wr.setCell ⟨go15, (x16_1 : Int).toNat, none⟩ (.int .i64 x27_2))) ?hg ?ho ?hn ?hr ?_; (case ho => rfl); (case hg => rfl); (case hn => rfl); (case hr => first | (go_simp; done) | (go_simp; rfl)); intro w31 hw; have hg : wr.grownBy w31 (some go15) := (by rw [hw]; exact HP30.2); have hp_ : Kd.R (Kd.int .i64) 3 w31 w.heap.size (fun _ => True) (.slice (some ⟨go15, 0, none⟩) x4_2.length co11) y554 := (by rw [hw, Ny554.out]; exact HP30.1); clear HP30; have n0_ := Aside0.mk (Kd.S_over' (v := (.slice (some ⟨go15, 0, none⟩) x4_2.length co11)) (by (with_reducible repeat (first | apply Kd.S_alloc | apply Kd.S_drewN | apply Kd.S_drew)); exact HO_3.out) (Kd.R_typed HO_4.out) (by decide) hg); have n1_ := Aside0.mk (hp_); have n2_ := Aside0.mk (blk_grown (g := gb543) (o := .cells #[.slice A0_0 l0_0.length c0_0] 29 (0, 0)) (by (with_reducible repeat (first | refine blk_drewN ?_ _ | refine blk_drew ?_ | refine blk_alloc ?_ _)); exact BK543.out) hg (Kd.R_ne HO_4.out BK543.out (by decide))); have n3_ := Aside0.mk ((by rw [hw]; exact below_set (HB.out) GB15.out : Below w.heap.size w w31)); have n9_ := Aside0.mk (Kd.R_over' (v := (.slice (some ⟨go15, 0, none⟩) x4_2.length co11)) (by (with_reducible repeat (first | apply Kd.R_alloc | apply Kd.R_drewN | apply Kd.R_drew)); exact HL551_0.out) (Kd.R_typed HO_4.out) (by decide) hg); clear HL551_0; clear HO_3; clear HO_4; clear BK543; clear HB; have HL551_0 := n9_; have HO_3 := n0_; have HO_4 := n1_; have BK543 := n2_; have HB := n3_; clear n9_ n0_ n1_ n2_ n3_; clear hg hw hp_))
                   repeat (go_quiet (first | ((with_reducible refine gate_store (t := 3) (p := 60) rfl ?_); (try (rw [drewN_self wr]; generalize hq_ : World.drewN wr _ = wr; have n0_ := Aside0.mk (Kd.S_at hq_ HO_3.out); have n1_ := Aside0.mk (Kd.R_at hq_ HO_4.out); have n2_ := Aside0.mk (blk_at hq_ BK543.out); have n3_ := Aside0.mk (below_at hq_ HB.out); have n9_ := Aside0.mk (Kd.R_at hq_ HL551_0.out); clear hq_ HL551_0 HO_3 HO_4 BK543 HB; have HL551_0 := n9_; have HO_3 := n0_; have HO_4 := n1_; have BK543 := n2_; have HB := n3_; clear n9_ n0_ n1_ n2_ n3_; (try (have HP30 := Kd.R_putg HO_4.out (x16_1 : Int) x27_2)); (try (obtain ⟨hx30_0, hf30_0⟩ := Kd.R_celln 0 HO_4.out (x16_1 : Int) (of_decide_eq_true (by first | (with_reducible assumption) | assumption)) (of_decide_eq_true (by first | (with_reducible assumption) | assumption)))))); refine store_event (t := 3) (p := 60) (v := ?vo_w31) (w1 := (wr.setCell ⟨go15, (x16_1 : Int).toNat, none⟩ (.int .i64 x27_2))) ?hg ?ho ?hn ?hr ?_; (case ho => rfl); (case hg => rfl); (case hn => rfl); (case hr => first | (go_simp; done) | (go_simp; rfl)); intro w31 hw; have hg : wr.grownBy w31 (some go15) := (by rw [hw]; exact HP30.2); have hp_ : Kd.R (Kd.int .i64) 3 w31 w.heap.size (fun _ => True) (.slice (some ⟨go15, 0, none⟩) x4_2.length co11) y554 := (by rw [hw, Ny554.out]; exact HP30.1); clear HP30; have n0_ := Aside0.mk (Kd.S_over' (v := (.slice (some ⟨go15, 0, none⟩) x4_2.length co11)) (by (with_reducible repeat (first | apply Kd.S_alloc | apply Kd.S_drewN | apply Kd.S_drew)); exact HO_3.out) (Kd.R_typed HO_4.out) (by decide) hg); have n1_ := Aside0.mk (hp_); have n2_ := Aside0.mk (blk_grown (g := gb543) (o := .cells #[.slice A0_0 l0_0.length c0_0] 29 (0, 0)) (by (with_reducible repeat (first | refine blk_drewN ?_ _ | refine blk_drew ?_ | refine blk_alloc ?_ _)); exact BK543.out) hg (Kd.R_ne HO_4.out BK543.out (by decide))); have n3_ := Aside0.mk ((by rw [hw]; exact below_set (HB.out) GB15.out : Below w.heap.size w w31)); have n9_ := Aside0.mk (Kd.R_over' (v := (.slice (some ⟨go15, 0, none⟩) x4_2.length co11)) (by (with_reducible repeat (first | apply Kd.R_alloc | apply Kd.R_drewN | apply Kd.R_drew)); exact HL551_0.out) (Kd.R_typed HO_4.out) (by decide) hg); clear HL551_0; clear HO_3; clear HO_4; clear BK543; clear HB; have HL551_0 := n9_; have HO_3 := n0_; have HO_4 := n1_; have BK543 := n2_; have HB := n3_; clear n9_ n0_ n1_ n2_ n3_; clear hg hw hp_)); try go_wp2_with (first | ((with_reducible refine gate_store (t := 3) (p := 60) rfl ?_); (try (rw [drewN_self wr]; generalize hq_ : World.drewN wr _ = wr; have n0_ := Aside0.mk (Kd.S_at hq_ HO_3.out); have n1_ := Aside0.mk (Kd.R_at hq_ HO_4.out); have n2_ := Aside0.mk (blk_at hq_ BK543.out); have n3_ := Aside0.mk (below_at hq_ HB.out); have n9_ := Aside0.mk (Kd.R_at hq_ HL551_0.out); clear hq_ HL551_0 HO_3 HO_4 BK543 HB; have HL551_0 := n9_; have HO_3 := n0_; have HO_4 := n1_; have BK543 := n2_; have HB := n3_; clear n9_ n0_ n1_ n2_ n3_; (try (have HP30 := Kd.R_putg HO_4.out (x16_1 : Int) x27_2)); (try (obtain ⟨hx30_0, hf30_0⟩ := Kd.R_celln 0 HO_4.out (x16_1 : Int) (of_decide_eq_true (by first | (with_reducible assumption) | assumption)) (of_decide_eq_true (by first | (with_reducible assumption) | assumption)))))); refine store_event (t := 3) (p := 60) (v := ?vo_w31) (w1 := (wr.setCell ⟨go15, (x16_1 : Int).toNat, none⟩ (.int .i64 x27_2))) ?hg ?ho ?hn ?hr ?_; (case ho => rfl); (case hg => rfl); (case hn => rfl); (case hr => first | (go_simp; done) | (go_simp; rfl)); intro w31 hw; have hg : wr.grownBy w31 (some go15) := (by rw [hw]; exact HP30.2); have hp_ : Kd.R (Kd.int .i64) 3 w31 w.heap.size (fun _ => True) (.slice (some ⟨go15, 0, none⟩) x4_2.length co11) y554 := (by rw [hw, Ny554.out]; exact HP30.1); clear HP30; have n0_ := Aside0.mk (Kd.S_over' (v := (.slice (some ⟨go15, 0, none⟩) x4_2.length co11)) (by (with_reducible repeat (first | apply Kd.S_alloc | apply Kd.S_drewN | apply Kd.S_drew)); exact HO_3.out) (Kd.R_typed HO_4.out) (by decide) hg); have n1_ := Aside0.mk (hp_); have n2_ := Aside0.mk (blk_grown (g := gb543) (o := .cells #[.slice A0_0 l0_0.length c0_0] 29 (0, 0)) (by (with_reducible repeat (first | refine blk_drewN ?_ _ | refine blk_drew ?_ | refine blk_alloc ?_ _)); exact BK543.out) hg (Kd.R_ne HO_4.out BK543.out (by decide))); have n3_ := Aside0.mk ((by rw [hw]; exact below_set (HB.out) GB15.out : Below w.heap.size w w31)); have n9_ := Aside0.mk (Kd.R_over' (v := (.slice (some ⟨go15, 0, none⟩) x4_2.length co11)) (by (with_reducible repeat (first | apply Kd.R_alloc | apply Kd.R_drewN | apply Kd.R_drew)); exact HL551_0.out) (Kd.R_typed HO_4.out) (by decide) hg); clear HL551_0; clear HO_3; clear HO_4; clear BK543; clear HB; have HL551_0 := n9_; have HO_3 := n0_; have HO_4 := n1_; have BK543 := n2_; have HB := n3_; clear n9_ n0_ n1_ n2_ n3_; clear hg hw hp_)))
                   (try simp only [← hl4_2])
                   go_roundg k2
                   case measure => have := HK1.out; have := HK2.out; omega
                   case rel => exact ⟨(y554), (wrap64 (x27_2 + 1)), (by first | rfl | (simp; done) | (simp [*]; done)), H', ⟨by have := HK1.out; have := HK2.out; omega⟩, ⟨by (try simp only [hl4_1]); (try simp only [hl4_2]); (with_reducible repeat (first | apply Kd.S_alloc | apply Kd.S_drewN | apply Kd.S_drew)); exact HO_3.out⟩, ⟨by (try simp only [hl4_1]); (try simp only [hl4_2]); (with_reducible repeat (first | apply Kd.R_alloc | apply Kd.R_drewN | apply Kd.R_drew)); exact HO_4.out⟩, ⟨by (try simp only [hl4_1]); (try simp only [hl4_2]); (with_reducible repeat (first | refine blk_drewN ?_ _ | refine blk_drew ?_ | refine blk_alloc ?_ _)); exact BK543.out⟩, ⟨by repeat (first | (with_reducible first | exact HB.out | apply below_alloc | apply pw_below_drewN | apply below_drew1 | refine below_set ?_ GE543.out) | exact HB.out)⟩, ⟨by (try simp only [hl4_1]); (try simp only [hl4_2]); (try simp only [hl551_0]); (try simp only [hl555_0]); (with_reducible repeat (first | apply Kd.R_alloc | apply Kd.R_drewN | apply Kd.R_drew)); exact HL551_0.out⟩⟩
                  ·rw [if_neg c28] at H
                   have c28b0 : decide ((rd x4_2 x16_1) < 0) = false := decide_eq_false c28
                   clear c28
                   by_cases c32 : x27_2 < (t544.length : Int)
                   ·rw [if_pos c32] at H
                    have c32b0 : decide (x27_2 < (t544.length : Int)) = true := decide_eq_true c32
                    clear c32
                    by_cases c33 : 0 ≤ (rd x4_2 x16_1)
                    ·rw [if_pos c33] at H
                     have c33b0 : decide (0 ≤ (rd x4_2 x16_1)) = true := decide_eq_true c33
                     clear c33
                     by_cases c34 : (rd x4_2 x16_1) < ((rd_L9 t544 x27_2).length : Int)
                     ·rw [if_pos c34] at H
                      have c34b0 : decide ((rd x4_2 x16_1) < ((rd_L9 t544 x27_2).length : Int)) = true := decide_eq_true c34
                      clear c34
                      obtain ⟨bq35, hbq35⟩ : ∃ b_ : Bool, b_ = (rdOf false (rd_L9 t544 x27_2) (rd x4_2 x16_1)) := ⟨_, rfl⟩
                      replace H : (if bq35 = true then (impl_Prog_over.l1 k2 t544 (x4_2.set (x16_1 : Int).toNat x27_2) x16_1 (y547.length : Int) x16_1 (rd_L9 t544 x16_1) ((rd_L9 t544 x16_1).length : Int) (wrap64 (x27_2 + 1))) else (impl_Prog_over.l1 k2 t544 x4_2 x16_1 (y547.length : Int) x16_1 (rd_L9 t544 x16_1) ((rd_L9 t544 x16_1).length : Int) (wrap64 (x27_2 + 1)))) = some r := by rw [← hbq35] at H; exact H
                      have Nbq35 := Aside0.mk hbq35
                      clear hbq35
                      by_cases c36 : bq35 = true
                      ·subst c36
                       have H1 : (impl_Prog_over.l1 k2 t544 (x4_2.set (x16_1 : Int).toNat x27_2) x16_1 (y547.length : Int) x16_1 (rd_L9 t544 x16_1) ((rd_L9 t544 x16_1).length : Int) (wrap64 (x27_2 + 1))) = some r := by rw [if_pos rfl] at H; exact H
                       clear H
                       have H := H1
                       clear H1
                       obtain ⟨y558, hy558⟩ : ∃ y_ : List Int, y_ = (x4_2.set (x16_1 : Int).toNat x27_2) := ⟨_, rfl⟩
                       replace H : (impl_Prog_over.l1 k2 t544 y558 x16_1 (y547.length : Int) x16_1 (rd_L9 t544 x16_1) ((rd_L9 t544 x16_1).length : Int) (wrap64 (x27_2 + 1))) = some r := by first | (rw [hy558]; with_reducible exact H) | (have H2_ := (Option.bind_some _ _).symm.trans H; rw [hy558]; with_reducible exact H2_) | (have H2_ := (Option.bind_some _ _).symm.trans H; with_reducible exact H2_) | with_reducible exact H | (rw [hy558]; exact H) | exact H
                       have Ny558 := Aside0.mk hy558
                       clear hy558
                       have H' := Aside0.mk H
                       clear H
                       have p552 : 0 ≤ (x27_2 : Int) := of_decide_eq_true (by first | (with_reducible assumption) | assumption)
                       have q552 : x27_2 < ((rd_L9 t544 x16_1).length : Int) := of_decide_eq_true (by first | (with_reducible assumption) | assumption)
                       obtain ⟨ad552, e552, hx552_0⟩ := Kd.at_bool (Kd.R_reads' HL551_0.out).2.2 x27_2 p552 q552
                       (try rw [← Nbq23.out] at hx552_0)
                       (try rw [← Nbq35.out] at hx552_0)
                       cases e552
                       skip
                       replace p552 := eq_true p552
                       replace q552 := eq_true q552
                       have p553 : 0 ≤ (x16_1 : Int) := of_decide_eq_true (by first | (with_reducible assumption) | assumption)
                       have q553 : x16_1 < (x4_2.length : Int) := of_decide_eq_true (by first | (with_reducible assumption) | assumption)
                       try (obtain ⟨Av_, cv_, ev_⟩ := Kd.R_slice HO_4.out; subst ev_)
                       obtain ⟨ad553, e553, hx553_0⟩ := Kd.at_int (Kd.R_reads' HO_4.out).2.2 x16_1 p553 q553
                       obtain rfl : (⟨go15, 0, none⟩ : Addr) = ad553 := (by injection e553)
                       (first | simp only [add_plain] at hx553_0 | simp only [add_at] at hx553_0 | simp only [Addr.add, Nat.zero_add] at hx553_0 | skip)
                       replace p553 := eq_true p553
                       replace q553 := eq_true q553
                       have p555 : 0 ≤ (x27_2 : Int) := of_decide_eq_true (by first | (with_reducible assumption) | assumption)
                       have q555 : x27_2 < (t544.length : Int) := of_decide_eq_true (by first | (with_reducible assumption) | assumption)
                       obtain ⟨ad555, A555_0, c555_0, e555, hx555_0, hl555_0, hi555_0⟩ := at_L9 (Kd.S_reads' HO_3.out).2.2 x27_2 p555 q555
                       obtain rfl : ad551 = ad555 := (by injection e555)
                       obtain ⟨ce555, hce555, hMe555, hcc555⟩ := Kd.S_get HO_3.out [] x27_2 p555 (by first | exact q555 | exact of_decide_eq_true (by first | (with_reducible assumption) | assumption) | (have e_ := (Kd.S_reads' HO_3.out).1; omega))
                       obtain ⟨ve555_0, rfl, ge555_0⟩ := hMe555
                       have hv555_0 := hcc555 0 _ rfl
                       rw [Nat.add_zero, show ((Kd.slice 4 Kd.bool)).sz = 1 from rfl, Nat.mul_one] at hv555_0
                       replace hv555_0 := Option.some.inj (hv555_0.symm.trans hx555_0)
                       rw [hv555_0] at ge555_0
                       have HL555_0 := Aside0.mk (show Kd.R Kd.bool 4 _ _ _ _ (rd_L9 t544 x27_2) from ge555_0)
                       clear hv555_0 ge555_0
                       clear hcc555 hce555
                       have HR555_0 := Aside0.mk hi555_0
                       have HC555_0 := Aside0.mk hl555_0
                       clear hi555_0 hl555_0
                       replace p555 := eq_true p555
                       replace q555 := eq_true q555
                       have p556 : 0 ≤ (x16_1 : Int) := of_decide_eq_true (by first | (with_reducible assumption) | assumption)
                       have q556 : x16_1 < (x4_2.length : Int) := of_decide_eq_true (by first | (with_reducible assumption) | assumption)
                       try (obtain ⟨Av_, cv_, ev_⟩ := Kd.R_slice HO_4.out; subst ev_)
                       obtain ⟨ad556, e556, hx556_0⟩ := Kd.at_int (Kd.R_reads' HO_4.out).2.2 x16_1 p556 q556
                       obtain rfl : (⟨go15, 0, none⟩ : Addr) = ad556 := (by injection e556)
                       (first | simp only [add_plain] at hx556_0 | simp only [add_at] at hx556_0 | simp only [Addr.add, Nat.zero_add] at hx556_0 | skip)
                       replace p556 := eq_true p556
                       replace q556 := eq_true q556
                       have p557 : 0 ≤ ((rd x4_2 x16_1) : Int) := of_decide_eq_true (by first | (with_reducible assumption) | assumption)
                       have q557 : (rd x4_2 x16_1) < ((rd_L9 t544 x27_2).length : Int) := of_decide_eq_true (by first | (with_reducible assumption) | assumption)
                       obtain ⟨ad557, e557, hx557_0⟩ := Kd.at_bool (by repeat (first | (with_reducible exact HR555_0.out) | (with_reducible refine Kd.C_alloc ?_ _) | (with_reducible refine Kd.C_drewN ?_ _) | (with_reducible refine Kd.C_drew ?_) | exact HR555_0.out)) (rd x4_2 x16_1) p557 q557
                       (try rw [← Nbq23.out] at hx557_0)
                       (try rw [← Nbq35.out] at hx557_0)
                       cases e557
                       replace p557 := eq_true p557
                       replace q557 := eq_true q557
                       have p37 : 0 ≤ (x16_1 : Int) := of_decide_eq_true (by first | (with_reducible assumption) | assumption)
                       have q37 : (x16_1 : Int) < ((x4_2.length : Int) : Int) := of_decide_eq_true (by first | (with_reducible assumption) | assumption)
                       obtain ⟨hx37_0, hf37_0⟩ := Kd.R_celln 0 HO_4.out (x16_1 : Int) p37 q37
                       replace p37 := eq_true p37
                       replace q37 := eq_true q37
                       have HP38 := Kd.R_putg HO_4.out (x16_1 : Int) x27_2
                       go_wp2_with (first | ((with_reducible refine gate_store (t := 3) (p := 60) rfl ?_); (try (rw [drewN_self wr]; generalize hq_ : World.drewN wr _ = wr; have n0_ := Aside0.mk (Kd.S_at hq_ HO_3.out); have n1_ := Aside0.mk (Kd.R_at hq_ HO_4.out); have n2_ := Aside0.mk (Kd.R_at hq_ HL555_0.out); have n3_ := Aside0.mk (blk_at hq_ BK543.out); have n4_ := Aside0.mk (below_at hq_ HB.out); have n9_ := Aside0.mk (Kd.R_at hq_ HL551_0.out); clear hq_ HL551_0 HO_3 HO_4 HL555_0 BK543 HB; have HL551_0 := n9_; have HO_3 := n0_; have HO_4 := n1_; have HL555_0 := n2_; have BK543 := n3_; have HB := n4_; clear n9_ n0_ n1_ n2_ n3_ n4_; (try (have HP38 := Kd.R_putg HO_4.out (x16_1 : Int) x27_2)); (try (obtain ⟨hx38_0, hf38_0⟩ := Kd.R_celln 0 HO_4.out (x16_1 : Int) (of_decide_eq_true (by first | (with_reducible assumption) | assumption)) (of_decide_eq_true (by first | (with_reducible assumption) | assumption)))))); refine store_event (t := 3) (p := 60) (v := ?vo_w39) (w1 := (wr.setCell ⟨go15, (x16_1 : Int).toNat, none⟩ (.int .i64 x27_2))) ?hg ?ho ?hn ?hr ?_; (case ho => rfl); (case hg => rfl); (case hn => rfl); (case hr => first | (go_simp; done) | (go_simp; rfl)); intro w39 hw; have hg : wr.grownBy w39 (some go15) := (by rw [hw]; exact HP38.2); have hp_ : Kd.R (Kd.int .i64) 3 w39 w.heap.size (fun _ => True) (.slice (some ⟨go15, 0, none⟩) x4_2.length co11) y558 := (by rw [hw, Ny558.out]; exact HP38.1); clear HP38; have n0_ := Aside0.mk (Kd.S_over' (v := (.slice (some ⟨go15, 0, none⟩) x4_2.length co11)) (by (with_reducible repeat (first | apply Kd.S_alloc | apply Kd.S_drewN | apply Kd.S_drew)); exact HO_3.out) (Kd.R_typed HO_4.out) (by decide) hg); have n1_ := Aside0.mk (hp_); have n2_ := Aside0.mk (blk_grown (g := gb543) (o := .cells #[.slice A0_0 l0_0.length c0_0] 29 (0, 0)) (by (with_reducible repeat (first | refine blk_drewN ?_ _ | refine blk_drew ?_ | refine blk_alloc ?_ _)); exact BK543.out) hg (Kd.R_ne HO_4.out BK543.out (by decide))); have n3_ := Aside0.mk (Kd.R_over' (v := (.slice (some ⟨go15, 0, none⟩) x4_2.length co11)) (by (with_reducible repeat (first | apply Kd.R_alloc | apply Kd.R_drewN | apply Kd.R_drew)); exact HL555_0.out) (Kd.R_typed HO_4.out) (by decide) hg); have n4_ := Aside0.mk ((by rw [hw]; exact below_set (HB.out) GB15.out : Below w.heap.size w w39)); have n9_ := Aside0.mk (Kd.R_over' (v := (.slice (some ⟨go15, 0, none⟩) x4_2.length co11)) (by (with_reducible repeat (first | apply Kd.R_alloc | apply Kd.R_drewN | apply Kd.R_drew)); exact HL551_0.out) (Kd.R_typed HO_4.out) (by decide) hg); clear HL551_0; clear HO_3; clear HO_4; clear BK543; clear HL555_0; clear HB; have HL551_0 := n9_; have HO_3 := n0_; have HO_4 := n1_; have BK543 := n2_; have HL555_0 := n3_; have HB := n4_; clear n9_ n0_ n1_ n2_ n3_ n4_; clear hg hw hp_))
                       repeat (go_quiet (first | ((with_reducible refine gate_store (t := 3) (p := 60) rfl ?_); (try (rw [drewN_self wr]; generalize hq_ : World.drewN wr _ = wr; have n0_ := Aside0.mk (Kd.S_at hq_ HO_3.out); have n1_ := Aside0.mk (Kd.R_at hq_ HO_4.out); have n2_ := Aside0.mk (Kd.R_at hq_ HL555_0.out); have n3_ := Aside0.mk (blk_at hq_ BK543.out); have n4_ := Aside0.mk (below_at hq_ HB.out); have n9_ := Aside0.mk (Kd.R_at hq_ HL551_0.out); clear hq_ HL551_0 HO_3 HO_4 HL555_0 BK543 HB; have HL551_0 := n9_; have HO_3 := n0_; have HO_4 := n1_; have HL555_0 := n2_; have BK543 := n3_; have HB := n4_; clear n9_ n0_ n1_ n2_ n3_ n4_; (try (have HP38 := Kd.R_putg HO_4.out (x16_1 : Int) x27_2)); (try (obtain ⟨hx38_0, hf38_0⟩ := Kd.R_celln 0 HO_4.out (x16_1 : Int) (of_decide_eq_true (by first | (with_reducible assumption) | assumption)) (of_decide_eq_true (by first | (with_reducible assumption) | assumption)))))); refine store_event (t := 3) (p := 60) (v := ?vo_w39) (w1 := (wr.setCell ⟨go15, (x16_1 : Int).toNat, none⟩ (.int .i64 x27_2))) ?hg ?ho ?hn ?hr ?_; (case ho => rfl); (case hg => rfl); (case hn => rfl); (case hr => first | (go_simp; done) | (go_simp; rfl)); intro w39 hw; have hg : wr.grownBy w39 (some go15) := (by rw [hw]; exact HP38.2); have hp_ : Kd.R (Kd.int .i64) 3 w39 w.heap.size (fun _ => True) (.slice (some ⟨go15, 0, none⟩) x4_2.length co11) y558 := (by rw [hw, Ny558.out]; exact HP38.1); clear HP38; have n0_ := Aside0.mk (Kd.S_over' (v := (.slice (some ⟨go15, 0, none⟩) x4_2.length co11)) (by (with_reducible repeat (first | apply Kd.S_alloc | apply Kd.S_drewN | apply Kd.S_drew)); exact HO_3.out) (Kd.R_typed HO_4.out) (by decide) hg); have n1_ := Aside0.mk (hp_); have n2_ := Aside0.mk (blk_grown (g := gb543) (o := .cells #[.slice A0_0 l0_0.length c0_0] 29 (0, 0)) (by (with_reducible repeat (first | refine blk_drewN ?_ _ | refine blk_drew ?_ | refine blk_alloc ?_ _)); exact BK543.out) hg (Kd.R_ne HO_4.out BK543.out (by decide))); have n3_ := Aside0.mk (Kd.R_over' (v := (.slice (some ⟨go15, 0, none⟩) x4_2.length co11)) (by (with_reducible repeat (first | apply Kd.R_alloc | apply Kd.R_drewN | apply Kd.R_drew)); exact HL555_0.out) (Kd.R_typed HO_4.out) (by decide) hg); have n4_ := Aside0.mk ((by rw [hw]; exact below_set (HB.out) GB15.out : Below w.heap.size w w39)); have n9_ := Aside0.mk (Kd.R_over' (v := (.slice (some ⟨go15, 0, none⟩) x4_2.length co11)) (by (with_reducible repeat (first | apply Kd.R_alloc | apply Kd.R_drewN | apply Kd.R_drew)); exact HL551_0.out) (Kd.R_typed HO_4.out) (by decide) hg); clear HL551_0; clear HO_3; clear HO_4; clear BK543; clear HL555_0; clear HB; have HL551_0 := n9_; have HO_3 := n0_; have HO_4 := n1_; have BK543 := n2_; have HL555_0 := n3_; have HB := n4_; clear n9_ n0_ n1_ n2_ n3_ n4_; clear hg hw hp_)); try go_wp2_with (first | ((with_reducible refine gate_store (t := 3) (p := 60) rfl ?_); (try (rw [drewN_self wr]; generalize hq_ : World.drewN wr _ = wr; have n0_ := Aside0.mk (Kd.S_at hq_ HO_3.out); have n1_ := Aside0.mk (Kd.R_at hq_ HO_4.out); have n2_ := Aside0.mk (Kd.R_at hq_ HL555_0.out); have n3_ := Aside0.mk (blk_at hq_ BK543.out); have n4_ := Aside0.mk (below_at hq_ HB.out); have n9_ := Aside0.mk (Kd.R_at hq_ HL551_0.out); clear hq_ HL551_0 HO_3 HO_4 HL555_0 BK543 HB; have HL551_0 := n9_; have HO_3 := n0_; have HO_4 := n1_; have HL555_0 := n2_; have BK543 := n3_; have HB := n4_; clear n9_ n0_ n1_ n2_ n3_ n4_; (try (have HP38 := Kd.R_putg HO_4.out (x16_1 : Int) x27_2)); (try (obtain ⟨hx38_0, hf38_0⟩ := Kd.R_celln 0 HO_4.out (x16_1 : Int) (of_decide_eq_true (by first | (with_reducible assumption) | assumption)) (of_decide_eq_true (by first | (with_reducible assumption) | assumption)))))); refine store_event (t := 3) (p := 60) (v := ?vo_w39) (w1 := (wr.setCell ⟨go15, (x16_1 : Int).toNat, none⟩ (.int .i64 x27_2))) ?hg ?ho ?hn ?hr ?_; (case ho => rfl); (case hg => rfl); (case hn => rfl); (case hr => first | (go_simp; done) | (go_simp; rfl)); intro w39 hw; have hg : wr.grownBy w39 (some go15) := (by rw [hw]; exact HP38.2); have hp_ : Kd.R (Kd.int .i64) 3 w39 w.heap.size (fun _ => True) (.slice (some ⟨go15, 0, none⟩) x4_2.length co11) y558 := (by rw [hw, Ny558.out]; exact HP38.1); clear HP38; have n0_ := Aside0.mk (Kd.S_over' (v := (.slice (some ⟨go15, 0, none⟩) x4_2.length co11)) (by (with_reducible repeat (first | apply Kd.S_alloc | apply Kd.S_drewN | apply Kd.S_drew)); exact HO_3.out) (Kd.R_typed HO_4.out) (by decide) hg); have n1_ := Aside0.mk (hp_); have n2_ := Aside0.mk (blk_grown (g := gb543) (o := .cells #[.slice A0_0 l0_0.length c0_0] 29 (0, 0)) (by (with_reducible repeat (first | refine blk_drewN ?_ _ | refine blk_drew ?_ | refine blk_alloc ?_ _)); exact BK543.out) hg (Kd.R_ne HO_4.out BK543.out (by decide))); have n3_ := Aside0.mk (Kd.R_over' (v := (.slice (some ⟨go15, 0, none⟩) x4_2.length co11)) (by (with_reducible repeat (first | apply Kd.R_alloc | apply Kd.R_drewN | apply Kd.R_drew)); exact HL555_0.out) (Kd.R_typed HO_4.out) (by decide) hg); have n4_ := Aside0.mk ((by rw [hw]; exact below_set (HB.out) GB15.out : Below w.heap.size w w39)); have n9_ := Aside0.mk (Kd.R_over' (v := (.slice (some ⟨go15, 0, none⟩) x4_2.length co11)) (by (with_reducible repeat (first | apply Kd.R_alloc | apply Kd.R_drewN | apply Kd.R_drew)); exact HL551_0.out) (Kd.R_typed HO_4.out) (by decide) hg); clear HL551_0; clear HO_3; clear HO_4; clear BK543; clear HL555_0; clear HB; have HL551_0 := n9_; have HO_3 := n0_; have HO_4 := n1_; have BK543 := n2_; have HL555_0 := n3_; have HB := n4_; clear n9_ n0_ n1_ n2_ n3_ n4_; clear hg hw hp_)))
                       (try simp only [← hl4_2])
                       go_roundg k2
                       case measure => have := HK1.out; have := HK2.out; omega
                       case rel => exact ⟨(y558), (wrap64 (x27_2 + 1)), (by first | rfl | (simp; done) | (simp [*]; done)), H', ⟨by have := HK1.out; have := HK2.out; omega⟩, ⟨by (try simp only [hl4_1]); (try simp only [hl4_2]); (with_reducible repeat (first | apply Kd.S_alloc | apply Kd.S_drewN | apply Kd.S_drew)); exact HO_3.out⟩, ⟨by (try simp only [hl4_1]); (try simp only [hl4_2]); (with_reducible repeat (first | apply Kd.R_alloc | apply Kd.R_drewN | apply Kd.R_drew)); exact HO_4.out⟩, ⟨by (try simp only [hl4_1]); (try simp only [hl4_2]); (with_reducible repeat (first | refine blk_drewN ?_ _ | refine blk_drew ?_ | refine blk_alloc ?_ _)); exact BK543.out⟩, ⟨by repeat (first | (with_reducible first | exact HB.out | apply below_alloc | apply pw_below_drewN | apply below_drew1 | refine below_set ?_ GE543.out) | exact HB.out)⟩, ⟨by (try simp only [hl4_1]); (try simp only [hl4_2]); (try simp only [hl551_0]); (try simp only [hl555_0]); (with_reducible repeat (first | apply Kd.R_alloc | apply Kd.R_drewN | apply Kd.R_drew)); exact HL551_0.out⟩⟩
                      ·replace c36 := Bool.eq_false_iff.mpr c36
                       subst c36
                       have H1 : (impl_Prog_over.l1 k2 t544 x4_2 x16_1 (y547.length : Int) x16_1 (rd_L9 t544 x16_1) ((rd_L9 t544 x16_1).length : Int) (wrap64 (x27_2 + 1))) = some r := by rw [if_neg (show ¬ (false = true) by decide)] at H; exact H
                       clear H
                       have H := H1
                       clear H1
                       have H' := Aside0.mk H
                       clear H
                       have p552 : 0 ≤ (x27_2 : Int) := of_decide_eq_true (by first | (with_reducible assumption) | assumption)
                       have q552 : x27_2 < ((rd_L9 t544 x16_1).length : Int) := of_decide_eq_true (by first | (with_reducible assumption) | assumption)
                       obtain ⟨ad552, e552, hx552_0⟩ := Kd.at_bool (Kd.R_reads' HL551_0.out).2.2 x27_2 p552 q552
                       (try rw [← Nbq23.out] at hx552_0)
                       (try rw [← Nbq35.out] at hx552_0)
                       cases e552
                       skip
                       replace p552 := eq_true p552
                       replace q552 := eq_true q552
                       have p553 : 0 ≤ (x16_1 : Int) := of_decide_eq_true (by first | (with_reducible assumption) | assumption)
                       have q553 : x16_1 < (x4_2.length : Int) := of_decide_eq_true (by first | (with_reducible assumption) | assumption)
                       try (obtain ⟨Av_, cv_, ev_⟩ := Kd.R_slice HO_4.out; subst ev_)
                       obtain ⟨ad553, e553, hx553_0⟩ := Kd.at_int (Kd.R_reads' HO_4.out).2.2 x16_1 p553 q553
                       obtain rfl : (⟨go15, 0, none⟩ : Addr) = ad553 := (by injection e553)
                       (first | simp only [add_plain] at hx553_0 | simp only [add_at] at hx553_0 | simp only [Addr.add, Nat.zero_add] at hx553_0 | skip)
                       replace p553 := eq_true p553
                       replace q553 := eq_true q553
                       have p555 : 0 ≤ (x27_2 : Int) := of_decide_eq_true (by first | (with_reducible assumption) | assumption)
                       have q555 : x27_2 < (t544.length : Int) := of_decide_eq_true (by first | (with_reducible assumption) | assumption)
                       obtain ⟨ad555, A555_0, c555_0, e555, hx555_0, hl555_0, hi555_0⟩ := at_L9 (Kd.S_reads' HO_3.out).2.2 x27_2 p555 q555
                       obtain rfl : ad551 = ad555 := (by injection e555)
                       obtain ⟨ce555, hce555, hMe555, hcc555⟩ := Kd.S_get HO_3.out [] x27_2 p555 (by first | exact q555 | exact of_decide_eq_true (by first | (with_reducible assumption) | assumption) | (have e_ := (Kd.S_reads' HO_3.out).1; omega))
                       obtain ⟨ve555_0, rfl, ge555_0⟩ := hMe555
                       have hv555_0 := hcc555 0 _ rfl
                       rw [Nat.add_zero, show ((Kd.slice 4 Kd.bool)).sz = 1 from rfl, Nat.mul_one] at hv555_0
                       replace hv555_0 := Option.some.inj (hv555_0.symm.trans hx555_0)
                       rw [hv555_0] at ge555_0
                       have HL555_0 := Aside0.mk (show Kd.R Kd.bool 4 _ _ _ _ (rd_L9 t544 x27_2) from ge555_0)
                       clear hv555_0 ge555_0
                       clear hcc555 hce555
                       have HR555_0 := Aside0.mk hi555_0
                       have HC555_0 := Aside0.mk hl555_0
                       clear hi555_0 hl555_0
                       replace p555 := eq_true p555
                       replace q555 := eq_true q555
                       have p556 : 0 ≤ (x16_1 : Int) := of_decide_eq_true (by first | (with_reducible assumption) | assumption)
                       have q556 : x16_1 < (x4_2.length : Int) := of_decide_eq_true (by first | (with_reducible assumption) | assumption)
                       try (obtain ⟨Av_, cv_, ev_⟩ := Kd.R_slice HO_4.out; subst ev_)
                       obtain ⟨ad556, e556, hx556_0⟩ := Kd.at_int (Kd.R_reads' HO_4.out).2.2 x16_1 p556 q556
                       obtain rfl : (⟨go15, 0, none⟩ : Addr) = ad556 := (by injection e556)
                       (first | simp only [add_plain] at hx556_0 | simp only [add_at] at hx556_0 | simp only [Addr.add, Nat.zero_add] at hx556_0 | skip)
                       replace p556 := eq_true p556
                       replace q556 := eq_true q556
                       have p557 : 0 ≤ ((rd x4_2 x16_1) : Int) := of_decide_eq_true (by first | (with_reducible assumption) | assumption)
                       have q557 : (rd x4_2 x16_1) < ((rd_L9 t544 x27_2).length : Int) := of_decide_eq_true (by first | (with_reducible assumption) | assumption)
                       obtain ⟨ad557, e557, hx557_0⟩ := Kd.at_bool (by repeat (first | (with_reducible exact HR555_0.out) | (with_reducible refine Kd.C_alloc ?_ _) | (with_reducible refine Kd.C_drewN ?_ _) | (with_reducible refine Kd.C_drew ?_) | exact HR555_0.out)) (rd x4_2 x16_1) p557 q557
                       (try rw [← Nbq23.out] at hx557_0)
                       (try rw [← Nbq35.out] at hx557_0)
                       cases e557
                       replace p557 := eq_true p557
                       replace q557 := eq_true q557
                       go_wp2
                       repeat (go_quiet (fail); try go_wp2)
                       (try simp only [← hl4_2])
                       go_roundg k2
                       case measure => have := HK1.out; have := HK2.out; omega
                       case rel => exact ⟨(x4_2), (wrap64 (x27_2 + 1)), (by first | rfl | (simp; done) | (simp [*]; done)), H', ⟨by have := HK1.out; have := HK2.out; omega⟩, ⟨by (try simp only [hl4_1]); (try simp only [hl4_2]); (with_reducible repeat (first | apply Kd.S_alloc | apply Kd.S_drewN | apply Kd.S_drew)); exact HO_3.out⟩, ⟨by (try simp only [hl4_1]); (try simp only [hl4_2]); (with_reducible repeat (first | apply Kd.R_alloc | apply Kd.R_drewN | apply Kd.R_drew)); exact HO_4.out⟩, ⟨by (try simp only [hl4_1]); (try simp only [hl4_2]); (with_reducible repeat (first | refine blk_drewN ?_ _ | refine blk_drew ?_ | refine blk_alloc ?_ _)); exact BK543.out⟩, ⟨by repeat (first | (with_reducible first | exact HB.out | apply below_alloc | apply pw_below_drewN | apply below_drew1 | refine below_set ?_ GE543.out) | exact HB.out)⟩, ⟨by (try simp only [hl4_1]); (try simp only [hl4_2]); (try simp only [hl551_0]); (try simp only [hl555_0]); (with_reducible repeat (first | apply Kd.R_alloc | apply Kd.R_drewN | apply Kd.R_drew)); exact HL551_0.out⟩⟩
                     ·rw [if_neg c34] at H
                      exact absurd H (by simp)
                    ·rw [if_neg c33] at H
                     exact absurd H (by simp)
                   ·rw [if_neg c32] at H
                    exact absurd H (by simp)
                 ·rw [if_neg c27] at H
                  exact absurd H (by simp)
                ·rw [if_neg c26] at H
                 exact absurd H (by simp)
              ·replace c24 := Bool.eq_false_iff.mpr c24
               subst c24
               have H1 : (impl_Prog_over.l1 k2 t544 x4_2 x16_1 (y547.length : Int) x16_1 (rd_L9 t544 x16_1) ((rd_L9 t544 x16_1).length : Int) (wrap64 (x27_2 + 1))) = some r := by rw [if_neg (show ¬ (false = true) by decide)] at H; exact H
               clear H
               have H := H1
               clear H1
               have H' := Aside0.mk H
               clear H
               have p552 : 0 ≤ (x27_2 : Int) := of_decide_eq_true (by first | (with_reducible assumption) | assumption)
               have q552 : x27_2 < ((rd_L9 t544 x16_1).length : Int) := of_decide_eq_true (by first | (with_reducible assumption) | assumption)
               obtain ⟨ad552, e552, hx552_0⟩ := Kd.at_bool (Kd.R_reads' HL551_0.out).2.2 x27_2 p552 q552
               (try rw [← Nbq23.out] at hx552_0)
               cases e552
               skip
               replace p552 := eq_true p552
               replace q552 := eq_true q552
               go_wp2
               repeat (go_quiet (fail); try go_wp2)
               (try simp only [← hl4_2])
               go_roundg k2
               case measure => have := HK1.out; have := HK2.out; omega
               case rel => exact ⟨(x4_2), (wrap64 (x27_2 + 1)), (by first | rfl | (simp; done) | (simp [*]; done)), H', ⟨by have := HK1.out; have := HK2.out; omega⟩, ⟨by (try simp only [hl4_1]); (try simp only [hl4_2]); (with_reducible repeat (first | apply Kd.S_alloc | apply Kd.S_drewN | apply Kd.S_drew)); exact HO_3.out⟩, ⟨by (try simp only [hl4_1]); (try simp only [hl4_2]); (with_reducible repeat (first | apply Kd.R_alloc | apply Kd.R_drewN | apply Kd.R_drew)); exact HO_4.out⟩, ⟨by (try simp only [hl4_1]); (try simp only [hl4_2]); (with_reducible repeat (first | refine blk_drewN ?_ _ | refine blk_drew ?_ | refine blk_alloc ?_ _)); exact BK543.out⟩, ⟨by repeat (first | (with_reducible first | exact HB.out | apply below_alloc | apply pw_below_drewN | apply below_drew1 | refine below_set ?_ GE543.out) | exact HB.out)⟩, ⟨by (try simp only [hl4_1]); (try simp only [hl4_2]); (try simp only [hl551_0]); (try simp only [hl555_0]); (with_reducible repeat (first | apply Kd.R_alloc | apply Kd.R_drewN | apply Kd.R_drew)); exact HL551_0.out⟩⟩
             ·rw [if_neg c22] at H
              exact absurd H (by simp)
            ·rw [if_neg c21] at H
             exact absurd H (by simp)
           ·rw [if_neg c20] at H
            have c20b0 : decide (x27_2 < ((rd_L9 t544 x16_1).length : Int)) = false := decide_eq_false c20
            clear c20
            have H' := Aside0.mk H
            clear H
            go_wp2
            repeat (go_quiet (fail); try go_wp2)
            (try simp only [← hl4_1, ← hl4_2])
            go_roundg k2
            case measure => have := HK1.out; have := HK2.out; omega
            case rel => exact ⟨(x4_2), (wrap64 (x16_1 + 1)), (by first | rfl | (simp; done) | (simp [*]; done)), H', ⟨by have := HK1.out; have := HK2.out; omega⟩, ⟨by (try simp only [hl4_1]); (try simp only [hl4_2]); (with_reducible repeat (first | apply Kd.S_alloc | apply Kd.S_drewN | apply Kd.S_drew)); exact HO_3.out⟩, ⟨by (try simp only [hl4_1]); (try simp only [hl4_2]); (with_reducible repeat (first | apply Kd.R_alloc | apply Kd.R_drewN | apply Kd.R_drew)); exact HO_4.out⟩, ⟨by (try simp only [hl4_1]); (try simp only [hl4_2]); (with_reducible repeat (first | refine blk_drewN ?_ _ | refine blk_drew ?_ | refine blk_alloc ?_ _)); exact BK543.out⟩, ⟨by repeat (first | (with_reducible first | exact HB.out | apply below_alloc | apply pw_below_drewN | apply below_drew1 | refine below_set ?_ GE543.out) | exact HB.out)⟩⟩
        ·rw [if_neg c16] at H
         exact absurd H (by simp)
       ·rw [if_neg c14] at H
        exact absurd H (by simp)
      ·rw [if_neg c13] at H
       exact absurd H (by simp)
     ·rw [if_neg c12] at H
      have c12b0 : decide (x16_1 < (y547.length : Int)) = false := decide_eq_false c12
      (try simp only [hl4_1] at c12b0)
      (try simp only [hl4_2] at c12b0)
      (try simp only [hl551_0] at c12b0)
      (try simp only [hl555_0] at c12b0)
      clear c12
      obtain rfl := Option.some.inj H
      go_wp2
      repeat (go_quiet (fail); try go_wp2)
      go_ret
      exact ⟨_, by first | rfl | (simp [errW_none, errW_some] <;> rfl) | (simp [*, errW_none, errW_some] <;> rfl), by (with_reducible repeat (first | apply Kd.R_alloc | apply Kd.R_drewN | apply Kd.R_drew)); exact HO_4.out, by repeat (first | (with_reducible first | exact HB.out | apply below_alloc | apply pw_below_drewN | apply below_drew1 | refine below_set ?_ GE543.out) | exact HB.out)⟩
  ·rw [if_neg c4] at H
   exact absurd H (by simp)
 ·rw [if_neg c3] at H
  exact absurd H (by simp)

def impl_LoopOver.f (k : Nat) (l0_0 : List (S68)) : Option (List Int) := (impl_ProgOk.f l0_0).bind fun t560 => (if t560 = true then ((impl_Prog_over.f k l0_0).bind fun t561 => (some t561)) else (some ([] : List Int)))
set_option maxHeartbeats 8000000 in
set_option maxRecDepth 100000 in
theorem impl_LoopOver.calls (k : Nat) (A0_0 : Option Addr) (c0_0 : Nat) (l0_0 : List (S68)) (r : List Int) (w : World) (hr0_0 : Kd.C k68 w A0_0 l0_0.length l0_0) (hc0_0 : l0_0.length ≤ c0_0) (h : impl_LoopOver.f k l0_0 = some r) :
  Calls Try.prog 47 #[.agg #[.slice A0_0 l0_0.length c0_0]] w fun e w' => ∃ v0_ : Value, e = .returned (v0_) ∧ Kd.R (Kd.int .i64) 3 w' w.heap.size (fun _ => True) v0_ r ∧ Below w.heap.size w w' := by
 have hu29 := Try.underlying29
 have HR0_0 := Aside0.mk hr0_0
 have HC0_0 := Aside0.mk hc0_0
 clear hr0_0 hc0_0
 have HB := Aside0.mk (Below.refl w.heap.size w)
 have H : ((impl_ProgOk.f l0_0).bind fun t560 => (if t560 = true then ((impl_Prog_over.f k l0_0).bind fun t561 => (some t561)) else (some ([] : List Int)))) = some r := h
 clear h
 replace H := Option.bind_eq_some_iff.mp H
 obtain ⟨t560, A20, H⟩ := H
 replace H : (if t560 = true then ((impl_Prog_over.f k l0_0).bind fun t561 => (some t561)) else (some ([] : List Int))) = some r := H
 have A2 := Aside0.mk A20
 clear A20
 by_cases c3 : t560 = true
 ·subst c3
  have H1 : ((impl_Prog_over.f k l0_0).bind fun t561 => (some t561)) = some r := by rw [if_pos rfl] at H; exact H
  clear H
  have H := H1
  clear H1
  replace H := Option.bind_eq_some_iff.mp H
  obtain ⟨t561, A40, H⟩ := H
  replace H : (some t561) = some r := H
  have A4 := Aside0.mk A40
  clear A40
  obtain rfl := Option.some.inj H
  go_enter Try.func47, Try.ntmps47
  go_wp2_with (first | ((with_reducible refine gate_dst (N := 1) rfl ?_); refine box_event ?hg (N := 1) ?hd (cs := #[.slice A0_0 l0_0.length c0_0]) (t := 29) ?hr ?_; (case hd => rfl); (case hg => rfl); (case hr => first | (go_simp; done) | (go_simp; rfl)); intro gb559 hg w5 hbox hb; have n_ := boxed (bel HB.out) hb hbox hg; clear HB hb hbox hg; obtain ⟨HB, BK559, GW559, GE559⟩ := n_; have hcz6_0 : w5.cell? ⟨gb559, 0, none⟩ = some (.slice A0_0 l0_0.length c0_0) := (blk_cell BK559.out 0).trans rfl) | ((with_reducible refine gate_callee (f := 63) rfl ?_); refine goesL_ (some 4) rfl rfl Try.func63 (by kernel_rfl) rfl #[.agg #[.slice A0_0 l0_0.length c0_0]] rfl (by (try simp only [List.map_toArray, List.map_cons, List.map_nil]); first | done | rfl | (simp only [List.length_drop, List.length_take]; rfl)) ?_; (with_reducible refine (impl_ProgOk.calls _ _ l0_0 true _ ?side1 ?side2 A2.out).mono ?_); (case side1 => repeat (first | exact (Kd.C_below HR0_0.out HB.out) | (with_reducible refine Kd.C_alloc ?_ _) | (with_reducible refine Kd.C_drewN ?_ _) | (with_reducible refine Kd.C_drew ?_))); (case side2 => exact HC0_0.out); rintro e w7 ⟨rfl, hb⟩; refine ⟨_, rfl, ?_⟩; have n0_ := Aside0.mk (blk_below (g := gb559) (o := .cells #[.slice A0_0 l0_0.length c0_0] 29 (0, 0)) (by (with_reducible repeat (first | refine blk_drewN ?_ _ | refine blk_drew ?_ | refine blk_alloc ?_ _)); exact BK559.out) hb); have n1_ := Aside0.mk (below_step (by repeat (first | (with_reducible first | exact HB.out | apply below_alloc | apply pw_below_drewN | apply below_drew1 | refine below_set ?_ GE559.out) | exact HB.out)) hb); clear BK559; clear HB; have BK559 := n0_; have HB := n1_; clear n0_ n1_; (try clear hb); (try clear hb2); (try clear hk); (try clear hi); have hcz8_0 : w7.cell? ⟨gb559, 0, none⟩ = some (.slice A0_0 l0_0.length c0_0) := (blk_cell BK559.out 0).trans rfl) | ((with_reducible refine gate_callee (f := 86) rfl ?_); refine goesL_ (some 7) rfl rfl Try.func86 (by kernel_rfl) rfl #[.agg #[.slice A0_0 l0_0.length c0_0]] rfl (by (try simp only [List.map_toArray, List.map_cons, List.map_nil]); first | done | rfl | (simp only [List.length_drop, List.length_take]; rfl)) ?_; (with_reducible refine (impl_Prog_over.calls k _ _ l0_0 t561 _ ?side1 ?side2 A4.out).mono ?_); (case side1 => repeat (first | exact (Kd.C_below HR0_0.out HB.out) | (with_reducible refine Kd.C_alloc ?_ _) | (with_reducible refine Kd.C_drewN ?_ _) | (with_reducible refine Kd.C_drew ?_))); (case side2 => exact HC0_0.out); rintro e w9 ⟨v562, rfl, ho0, hb⟩; refine ⟨_, rfl, ?_⟩; have n0_ := Aside0.mk (Kd.R_lower ho0 (below_size (by repeat (first | (with_reducible first | exact HB.out | apply below_alloc | apply pw_below_drewN | apply below_drew1 | refine below_set ?_ GE559.out) | exact HB.out)))); have n1_ := Aside0.mk (blk_below (g := gb559) (o := .cells #[.slice A0_0 l0_0.length c0_0] 29 (0, 0)) (by (with_reducible repeat (first | refine blk_drewN ?_ _ | refine blk_drew ?_ | refine blk_alloc ?_ _)); exact BK559.out) hb); have n2_ := Aside0.mk (below_step (by repeat (first | (with_reducible first | exact HB.out | apply below_alloc | apply pw_below_drewN | apply below_drew1 | refine below_set ?_ GE559.out) | exact HB.out)) hb); clear BK559; clear HB; have HO563 := n0_; have BK559 := n1_; have HB := n2_; clear n0_ n1_ n2_; (try clear hb); (try clear hb2); (try clear hk); (try clear hi); (try clear ho0)))
  go_ret
  exact ⟨_, by first | rfl | (simp [errW_none, errW_some] <;> rfl) | (simp [*, errW_none, errW_some] <;> rfl), by (with_reducible repeat (first | apply Kd.R_alloc | apply Kd.R_drewN | apply Kd.R_drew)); exact HO563.out, by repeat (first | (with_reducible first | exact HB.out | apply below_alloc | apply pw_below_drewN | apply below_drew1 | refine below_set ?_ GE559.out) | exact HB.out)⟩
 ·replace c3 := Bool.eq_false_iff.mpr c3
  subst c3
  have H1 : (some ([] : List Int)) = some r := by rw [if_neg (show ¬ (false = true) by decide)] at H; exact H
  clear H
  have H := H1
  clear H1
  obtain rfl := Option.some.inj H
  go_enter Try.func47, Try.ntmps47
  go_wp2_with (first | ((with_reducible refine gate_dst (N := 1) rfl ?_); refine box_event ?hg (N := 1) ?hd (cs := #[.slice A0_0 l0_0.length c0_0]) (t := 29) ?hr ?_; (case hd => rfl); (case hg => rfl); (case hr => first | (go_simp; done) | (go_simp; rfl)); intro gb559 hg w10 hbox hb; have n_ := boxed (bel HB.out) hb hbox hg; clear HB hb hbox hg; obtain ⟨HB, BK559, GW559, GE559⟩ := n_; have hcz11_0 : w10.cell? ⟨gb559, 0, none⟩ = some (.slice A0_0 l0_0.length c0_0) := (blk_cell BK559.out 0).trans rfl) | ((with_reducible refine gate_callee (f := 63) rfl ?_); refine goesL_ (some 4) rfl rfl Try.func63 (by kernel_rfl) rfl #[.agg #[.slice A0_0 l0_0.length c0_0]] rfl (by (try simp only [List.map_toArray, List.map_cons, List.map_nil]); first | done | rfl | (simp only [List.length_drop, List.length_take]; rfl)) ?_; (with_reducible refine (impl_ProgOk.calls _ _ l0_0 false _ ?side1 ?side2 A2.out).mono ?_); (case side1 => repeat (first | exact (Kd.C_below HR0_0.out HB.out) | (with_reducible refine Kd.C_alloc ?_ _) | (with_reducible refine Kd.C_drewN ?_ _) | (with_reducible refine Kd.C_drew ?_))); (case side2 => exact HC0_0.out); rintro e w12 ⟨rfl, hb⟩; refine ⟨_, rfl, ?_⟩; have n0_ := Aside0.mk (blk_below (g := gb559) (o := .cells #[.slice A0_0 l0_0.length c0_0] 29 (0, 0)) (by (with_reducible repeat (first | refine blk_drewN ?_ _ | refine blk_drew ?_ | refine blk_alloc ?_ _)); exact BK559.out) hb); have n1_ := Aside0.mk (below_step (by repeat (first | (with_reducible first | exact HB.out | apply below_alloc | apply pw_below_drewN | apply below_drew1 | refine below_set ?_ GE559.out) | exact HB.out)) hb); clear BK559; clear HB; have BK559 := n0_; have HB := n1_; clear n0_ n1_; (try clear hb); (try clear hb2); (try clear hk); (try clear hi)))
  go_ret
  exact ⟨_, by first | rfl | (simp [errW_none, errW_some] <;> rfl) | (simp [*, errW_none, errW_some] <;> rfl), by first | exact Kd.R_nil _ _ _ _ _ | exact Kd.N_nil _ _ _ _ _ | exact Kd.V_nil _ _ _ _ _ | exact Kd.Q_nil _ _ _ _ _ | exact Kd.S_nil _ _ _ _ _, by repeat (first | (with_reducible first | exact HB.out | apply below_alloc | apply pw_below_drewN | apply below_drew1 | refine below_set ?_ GE559.out) | exact HB.out)⟩

end Go.Proofs.Ytkehjekbglajhaa.F
