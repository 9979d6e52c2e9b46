-- printed by wip/myprint.py, a program that runs the kit's print.py patched in memory; hand-made contracts stand where that program has none. Not trusted: Lean checks it.
import Derived.Test.YtkehjekbglajhaaK1F0
import Derived.Test.YtkehjekbglajhaaK1F4
namespace Go.Proofs.Ytkehjekbglajhaa.F
open Go.RowKit Go.Proofs.YtkehjekbglajhaaW.PrintWords Go.Proofs.YtkehjekbglajhaaW.PrintLast
set_option linter.unusedVariables false
set_option linter.unusedSimpArgs false

mutual
def spec_FlowReach.l0 : Nat → List Bool → Bool → List (S68) → Option (List Bool)
 | 0, _, _, _ => none
 | k + 1, x3, x4, x126000 => if x4 = true then (spec_FlowReach.l1 k x3 false 0 x126000) else (some x3)
def spec_FlowReach.l1 : Nat → List Bool → Bool → Int → List (S68) → Option (List Bool)
 | 0, _, _, _, _ => none
 | k + 1, x3, x4, x5, x126000 => if x5 < (x126000.length : Int) then (spec_FlowReach.l2 k x3 x4 x5 0 x126000) else (spec_FlowReach.l0 k x3 x4 x126000)
def spec_FlowReach.l2 : Nat → List Bool → Bool → Int → Int → List (S68) → Option (List Bool)
 | 0, _, _, _, _, _ => none
 | k + 1, x3, x4, x5, x6, x126000 => if 0 ≤ x5 then (if x5 < (x126000.length : Int) then (if x6 < (((rd_T68 x126000 x5).f5).length : Int) then (if x5 < (x3.length : Int) then (spec_FlowReach.j3 k x3 x4 x5 x6 (rdOf false x3 x5) x126000) else (none)) else (spec_FlowReach.j3 k x3 x4 x5 x6 false x126000)) else (none)) else (none)
def spec_FlowReach.j3 : Nat → List Bool → Bool → Int → Int → Bool → List (S68) → Option (List Bool)
 | 0, _, _, _, _, _, _ => none
 | k + 1, x3, x4, x5, x6, x39, x126000 => if x39 = true then (if 0 ≤ x5 then (if x5 < (x126000.length : Int) then (if 0 ≤ x6 then (if x6 < (((rd_T68 x126000 x5).f5).length : Int) then (if 0 ≤ (rd ((rd_T68 x126000 x5).f5) x6) then (if (rd ((rd_T68 x126000 x5).f5) x6) < (x3.length : Int) then (if (rdOf false x3 (rd ((rd_T68 x126000 x5).f5) x6) = true) then (spec_FlowReach.l2 k x3 x4 x5 (wrap64 (x6 + 1)) x126000) else (spec_FlowReach.l2 k (x3.set ((rd ((rd_T68 x126000 x5).f5) x6) : Int).toNat true) true x5 (wrap64 (x6 + 1)) x126000)) else (none)) else (none)) else (none)) else (none)) else (none)) else (none)) else (spec_FlowReach.l1 k x3 x4 (wrap64 (x5 + 1)) x126000)
end
def spec_FlowReach.f (k : Nat) (l0_0 : List (S68)) : Option (List Bool) := (spec_ProgOk.f k l0_0).bind fun t126 => (if t126 = true then (if 0 ≤ (l0_0.length : Int) then (if ((l0_0.length : Int) : Int).toNat ≤ 281474976710656 then ((some (List.replicate ((l0_0.length : Int) : Int).toNat false : List Bool)).bind fun y130 => (if 0 < (y130.length : Int) then (spec_FlowReach.l0 k (y130.set (0 : Int).toNat true) true l0_0) else (none))) else (none)) else (none)) else (some (([] : List Bool))))
set_option maxHeartbeats 8000000 in
set_option maxRecDepth 100000 in
theorem spec_FlowReach.calls (k : Nat) (A0_0 : Option Addr) (c0_0 : Nat) (l0_0 : List (S68)) (r : List Bool) (w : World) (hr0_0 : Kd.C k68 w A0_0 l0_0.length l0_0) (hc0_0 : l0_0.length ≤ c0_0) (h : spec_FlowReach.f k l0_0 = some r) :
  Calls Try.prog 20 #[.agg #[.slice A0_0 l0_0.length c0_0]] w fun e w' => ∃ v0_ : Value, e = .returned (v0_) ∧ Kd.R Kd.bool 4 w' w.heap.size (fun _ => True) v0_ r ∧ Below w.heap.size w w' := by
 have hu29 := Try.underlying29
 have HR0_0 := Aside0.mk hr0_0
 have HC0_0 := Aside0.mk hc0_0
 clear hr0_0 hc0_0
 have HB := Aside0.mk (Below.refl w.heap.size w)
 have H : ((spec_ProgOk.f k l0_0).bind fun t126 => (if t126 = true then (if 0 ≤ (l0_0.length : Int) then (if ((l0_0.length : Int) : Int).toNat ≤ 281474976710656 then ((some (List.replicate ((l0_0.length : Int) : Int).toNat false : List Bool)).bind fun y130 => (if 0 < (y130.length : Int) then (spec_FlowReach.l0 k (y130.set (0 : Int).toNat true) true l0_0) else (none))) else (none)) else (none)) else (some (([] : List Bool))))) = some r := h
 clear h
 replace H := Option.bind_eq_some_iff.mp H
 obtain ⟨t126, A20, H⟩ := H
 replace H : (if t126 = true then (if 0 ≤ (l0_0.length : Int) then (if ((l0_0.length : Int) : Int).toNat ≤ 281474976710656 then ((some (List.replicate ((l0_0.length : Int) : Int).toNat false : List Bool)).bind fun y130 => (if 0 < (y130.length : Int) then (spec_FlowReach.l0 k (y130.set (0 : Int).toNat true) true l0_0) else (none))) else (none)) else (none)) else (some (([] : List Bool)))) = some r := H
 have A2 := Aside0.mk A20
 clear A20
 by_cases c3 : t126 = true
 ·subst c3
  have H1 : (if 0 ≤ (l0_0.length : Int) then (if ((l0_0.length : Int) : Int).toNat ≤ 281474976710656 then ((some (List.replicate ((l0_0.length : Int) : Int).toNat false : List Bool)).bind fun y130 => (if 0 < (y130.length : Int) then (spec_FlowReach.l0 k (y130.set (0 : Int).toNat true) true l0_0) else (none))) else (none)) else (none)) = some r := by rw [if_pos rfl] at H; exact H
  clear H
  have H := H1
  clear H1
  by_cases c4 : 0 ≤ (l0_0.length : Int)
  ·rw [if_pos c4] at H
   have c4b0 := eq_true c4
   have c4b1 : decide (0 ≤ (l0_0.length : Int)) = true := decide_eq_true c4
   clear c4
   by_cases c5 : ((l0_0.length : Int) : Int).toNat ≤ 281474976710656
   ·rw [if_pos c5] at H
    have c5b0 := eq_true c5
    have c5b1 : decide (((l0_0.length : Int) : Int).toNat ≤ 281474976710656) = true := decide_eq_true c5
    clear c5
    obtain ⟨y130, hy130⟩ : ∃ y_ : List Bool, y_ = (List.replicate ((l0_0.length : Int) : Int).toNat false) := ⟨_, rfl⟩
    replace H : (if 0 < (y130.length : Int) then (spec_FlowReach.l0 k (y130.set (0 : Int).toNat true) true l0_0) else (none)) = some r := by first | (rw [hy130]; with_reducible exact H) | (have H2_ := (Option.bind_some _ _).symm.trans H; rw [hy130]; with_reducible exact H2_) | (have H2_ := (Option.bind_some _ _).symm.trans H; with_reducible exact H2_) | with_reducible exact H | (rw [hy130]; exact H) | exact H
    have Ny130 := Aside0.mk hy130
    clear hy130
    by_cases c6 : 0 < (y130.length : Int)
    ·rw [if_pos c6] at H
     have c6b0 : decide (0 < (y130.length : Int)) = true := decide_eq_true c6
     have c6b1 : decide (0 < y130.length) = true := decide_eq_true (by omega)
     clear c6
     obtain ⟨y133, hy133⟩ : ∃ y_ : List Bool, y_ = (y130.set (0 : Int).toNat true) := ⟨_, rfl⟩
     replace H : (spec_FlowReach.l0 k y133 true l0_0) = some r := by first | (rw [hy133]; with_reducible exact H) | (have H2_ := (Option.bind_some _ _).symm.trans H; rw [hy133]; with_reducible exact H2_) | (have H2_ := (Option.bind_some _ _).symm.trans H; with_reducible exact H2_) | with_reducible exact H | (rw [hy133]; exact H) | exact H
     have Ny133 := Aside0.mk hy133
     clear hy133
     have H' := Aside0.mk H
     clear H
     go_enter Try.func20, Try.ntmps20
     go_wp2_with (first | ((with_reducible refine gate_dst (N := 1) rfl ?_); refine box_event ?hg (N := 1) ?hd (cs := #[.slice A0_0 l0_0.length c0_0]) (t := 29) ?hr ?_; (case hd => rfl); (case hg => rfl); (case hr => first | (go_simp; done) | (go_simp; rfl)); intro gb125 hg w8 hbox hb; have n_ := boxed (bel HB.out) hb hbox hg; clear HB hb hbox hg; obtain ⟨HB, BK125, GW125, GE125⟩ := n_; have hcz9_0 : w8.cell? ⟨gb125, 0, none⟩ = some (.slice A0_0 l0_0.length c0_0) := (blk_cell BK125.out 0).trans rfl; have hfz9_0 := blk_frozen BK125.out 0) | ((with_reducible refine gate_callee (f := 60) rfl ?_); refine goesL_ (some 8) rfl rfl Try.func60 (by kernel_rfl) rfl #[.agg #[.slice A0_0 l0_0.length c0_0]] rfl (by (try simp only [List.map_toArray, List.map_cons, List.map_nil]); first | done | rfl | (simp only [List.length_drop, List.length_take]; rfl)) ?_; (with_reducible refine (spec_ProgOk.calls k _ _ l0_0 true _ ?side1 ?side2 A2.out).mono ?_); (case side1 => repeat (first | exact (Kd.C_below HR0_0.out HB.out) | (with_reducible refine Kd.C_alloc ?_ _) | (with_reducible refine Kd.C_drewN ?_ _) | (with_reducible refine Kd.C_drew ?_))); (case side2 => exact HC0_0.out); rintro e w10 ⟨rfl, hb⟩; refine ⟨_, rfl, ?_⟩; have n0_ := Aside0.mk (blk_below (g := gb125) (o := .cells #[.slice A0_0 l0_0.length c0_0] 29 (0, 0)) (by (with_reducible repeat (first | refine blk_drewN ?_ _ | refine blk_drew ?_ | refine blk_alloc ?_ _)); exact BK125.out) hb); have n1_ := Aside0.mk (below_step (by repeat (first | (with_reducible first | exact HB.out | apply below_alloc | apply pw_below_drewN | apply below_drew1 | refine below_set ?_ GE125.out) | exact HB.out)) hb); clear BK125; clear HB; have BK125 := n0_; have HB := n1_; clear n0_ n1_; (try clear hb); (try clear hb2); (try clear hk); (try clear hi); have hcz11_0 : w10.cell? ⟨gb125, 0, none⟩ = some (.slice A0_0 l0_0.length c0_0) := (blk_cell BK125.out 0).trans rfl; have hfz11_0 := blk_frozen BK125.out 0) | ((with_reducible refine gate_dst (N := 14) rfl ?_); refine Kd.R_make Kd.bool _ 4 rfl (N := 14) rfl 33 _ _ rfl (l0_0.length : Int) rfl rfl Try.underlying33 (.bool false) 1 info4 rfl (by decide) (by omega) false (ok := fun _ => True) (okp := fun _ => True) rfl (fun _ hk => hk) trivial (of_decide_eq_true (by first | (with_reducible assumption) | assumption)) (Nat.le_trans (Nat.mul_le_mul_right _ (of_decide_eq_true (by first | (with_reducible assumption) | assumption) : (l0_0.length : Int).toNat ≤ 281474976710656)) (by omega)) (Below.refl _ _) (Nat.le_refl _) ?_; intro v131 w12 ho13 hb hg_ hnew_; clear hg_ hnew_; (first | rw [← Ny130.out] at ho13 | (simp only [Int.reduceToNat] at ho13; rw [← Ny130.out] at ho13)); have n0_ := Aside0.mk (Kd.R_lower ho13 (below_size (by repeat (first | (with_reducible first | exact HB.out | apply below_alloc | apply pw_below_drewN | apply below_drew1 | refine below_set ?_ GE125.out) | exact HB.out)))); have n1_ := Aside0.mk (blk_below (g := gb125) (o := .cells #[.slice A0_0 l0_0.length c0_0] 29 (0, 0)) (by (with_reducible repeat (first | refine blk_drewN ?_ _ | refine blk_drew ?_ | refine blk_alloc ?_ _)); exact BK125.out) hb); have n2_ := Aside0.mk (below_step (by repeat (first | (with_reducible first | exact HB.out | apply below_alloc | apply pw_below_drewN | apply below_drew1 | refine below_set ?_ GE125.out) | exact HB.out)) hb); clear BK125; clear HB; have HO132 := n0_; have BK125 := n1_; have HB := n2_; clear n0_ n1_ n2_; clear hb ho13; have p7 : 0 ≤ (0 : Int) := (by omega); have q7 : (0 : Int) < ((y130.length : Int) : Int) := of_decide_eq_true (by first | (with_reducible assumption) | assumption); have qi7 : (0 < y130.length) = True := eq_true (by omega); obtain ⟨go7, co7, eo7, gb7, gl7, cl7, HG7⟩ := Kd.R_form HO132.out (by omega); (first | cases eo7 | (injection eo7 with ea_ en_ ec_; (first | subst ea_ | (injection ea_ with ea_; subst ea_)); subst ec_; clear en_)); have GB7 := Aside0.mk gb7; have GG7 := Aside0.mk HG7; clear gb7 gl7 HG7; obtain ⟨hx7_0, hf7_0⟩ := Kd.R_celln false HO132.out (0 : Int) p7 q7; (try rw [show ((0 : Int)).toNat = 0 from rfl] at hx7_0); (try simp only [Nat.reduceMul, Nat.zero_mul, Nat.zero_add, Nat.reduceAdd] at hx7_0); (try rw [show ((0 : Int)).toNat = 0 from rfl] at hf7_0); (try simp only [Nat.reduceMul, Nat.zero_mul, Nat.zero_add, Nat.reduceAdd] at hf7_0); replace p7 := eq_true p7; replace q7 := eq_true q7; obtain ⟨hy14_, hz14_⟩ := Kd.R_celln false HO132.out (0 : Int) (by omega) (of_decide_eq_true (by first | (with_reducible assumption) | assumption)); (try simp only [Int.reduceToNat, Int.toNat_zero, Int.toNat_ofNat, Nat.reduceMul, Nat.zero_mul, Nat.zero_add] at hy14_ hz14_); (try rw [show ((0 : Int)).toNat = 0 from rfl] at hy14_); (try rw [show ((0 : Int)).toNat = 0 from rfl] at hz14_); have HP14 := Kd.R_putg HO132.out (0 : Int) true) | ((with_reducible refine gate_store (t := 4) (p := 16) rfl ?_); refine store_event (t := 4) (p := 16) (v := ?vo_w15) (w1 := (w12.setCell ⟨go7, (0 : Int).toNat, none⟩ (.bool true))) ?hg ?ho ?hn ?hr ?_; (case ho => rfl); (case hg => rfl); (case hn => rfl); (case hr => first | (go_simp; done) | (go_simp; rfl)); intro w15 hw; have hg : w12.grownBy w15 (some go7) := (by rw [hw]; exact HP14.2); have hp_ : Kd.R Kd.bool 4 w15 w.heap.size (fun _ => True) (.slice (some ⟨go7, 0, none⟩) y130.length co7) y133 := (by rw [hw, Ny133.out]; exact HP14.1); clear HP14; have n0_ := Aside0.mk (blk_grown (g := gb125) (o := .cells #[.slice A0_0 l0_0.length c0_0] 29 (0, 0)) (by (with_reducible repeat (first | refine blk_drewN ?_ _ | refine blk_drew ?_ | refine blk_alloc ?_ _)); exact BK125.out) hg (Kd.R_ne HO132.out BK125.out (by decide))); have n1_ := Aside0.mk (hp_); have n2_ := Aside0.mk ((by rw [hw]; exact below_set (HB.out) GB7.out : Below w.heap.size w w15)); clear BK125; clear HO132; clear HB; have BK125 := n0_; have HO132 := n1_; have HB := n2_; clear n0_ n1_ n2_; clear hg hw hp_))
     go_loopg [4] k (fun kq v4 w' => ∃ (x3_1 : List Bool) (x4_1 : Bool), v4 = .bool x4_1 ∧ Aside0 (spec_FlowReach.l0 kq x3_1 x4_1 l0_0 = some r) ∧ Aside0 (kq ≤ k) ∧ Aside0 (Kd.R Kd.bool 4 w' w.heap.size (fun _ => True) (.slice (some ⟨go7, 0, none⟩) y130.length co7) x3_1) ∧ Aside0 (w'.heap[gb125]? = some (.cells #[(.slice A0_0 l0_0.length c0_0)] 29 (0, 0))) ∧ Aside0 (Below w.heap.size w w'))
     case atStart => exact ⟨(y133), (true), (by first | rfl | (simp; done) | (simp [*]; done)), H', ⟨Nat.le_refl _⟩, ⟨by (with_reducible repeat (first | apply Kd.R_alloc | apply Kd.R_drewN | apply Kd.R_drew)); exact HO132.out⟩, ⟨by (with_reducible repeat (first | refine blk_drewN ?_ _ | refine blk_drew ?_ | refine blk_alloc ?_ _)); exact BK125.out⟩, ⟨by repeat (first | (with_reducible first | exact HB.out | apply below_alloc | apply pw_below_drewN | apply below_drew1 | refine below_set ?_ GE125.out) | exact HB.out)⟩⟩
     case round =>
      clear H'
      (try clear c3); (try clear c4); (try clear c4b0); (try clear c4b1); (try clear c5); (try clear c5b0); (try clear c5b1); (try clear c6); (try clear c6b0); (try clear c6b1); (try clear p7); (try clear q7); (try clear qi7); (try clear hcz11_0); (try clear hcz9_0); (try clear hfz11_0); (try clear hfz9_0); (try clear hx7_0)
      obtain ⟨x3_1, x4_1, rfl, HA, HK1, HO_3, BK125, HB⟩ := hrel
      have hl3_1 := (Kd.R_reads' HO_3.out).1
      rw [hl3_1] at HO_3
      (try simp only [hl3_1])
      (try simp only [hl3_1] at BK125)
      cases gk with
      | zero => exact absurd HA.out (by simp [spec_FlowReach.l0])
      | succ k1 =>
       have H := HA.out
       clear HA
       simp only [spec_FlowReach.l0] at H
       by_cases c16 : x4_1 = true
       ·subst c16
        have H1 : (spec_FlowReach.l1 k1 x3_1 false 0 l0_0) = some r := by rw [if_pos rfl] at H; exact H
        clear H
        have H := H1
        clear H1
        have H' := Aside0.mk H
        clear H
        go_wp2
        go_loopg [4, 5] k1 (fun kq v4 v5 w' => ∃ (x3_2 : List Bool) (x4_2 : Bool) (x5_2 : Int), v4 = .bool x4_2 ∧ v5 = .int .i64 x5_2 ∧ Aside0 (spec_FlowReach.l1 kq x3_2 x4_2 x5_2 l0_0 = some r) ∧ Aside0 (kq ≤ k1) ∧ Aside0 (Kd.R Kd.bool 4 w' w.heap.size (fun _ => True) (.slice (some ⟨go7, 0, none⟩) x3_1.length co7) x3_2) ∧ Aside0 (w'.heap[gb125]? = some (.cells #[(.slice A0_0 l0_0.length c0_0)] 29 (0, 0))) ∧ Aside0 (Below w.heap.size w w'))
        case atStart => exact ⟨(x3_1), (false), (0), (by first | rfl | (simp; done) | (simp [*]; done)), (by first | rfl | (simp; done) | (simp [*]; done)), H', ⟨Nat.le_refl _⟩, ⟨by (try simp only [hl3_1]); (with_reducible repeat (first | apply Kd.R_alloc | apply Kd.R_drewN | apply Kd.R_drew)); exact HO_3.out⟩, ⟨by (try simp only [hl3_1]); (with_reducible repeat (first | refine blk_drewN ?_ _ | refine blk_drew ?_ | refine blk_alloc ?_ _)); exact BK125.out⟩, ⟨by repeat (first | (with_reducible first | exact HB.out | apply below_alloc | apply pw_below_drewN | apply below_drew1 | refine below_set ?_ GE125.out) | exact HB.out)⟩⟩
        case round =>
         clear H'
         (try clear c3); (try clear c4); (try clear c4b0); (try clear c4b1); (try clear c5); (try clear c5b0); (try clear c5b1); (try clear c6); (try clear c6b0); (try clear c6b1); (try clear p7); (try clear q7); (try clear qi7); (try clear c16); (try clear hcz11_0); (try clear hcz9_0); (try clear hfz11_0); (try clear hfz9_0); (try clear hx7_0)
         obtain ⟨x3_2, x4_2, x5_2, rfl, rfl, HA, HK2, HO_3, BK125, HB⟩ := hrel
         have hl3_2 := (Kd.R_reads' HO_3.out).1
         rw [hl3_2] at HO_3
         (try simp only [hl3_2])
         (try simp only [hl3_2] at BK125)
         cases gk with
         | zero => exact absurd HA.out (by simp [spec_FlowReach.l1])
         | succ k2 =>
          have H := HA.out
          clear HA
          simp only [spec_FlowReach.l1] at H
          by_cases c17 : x5_2 < (l0_0.length : Int)
          ·rw [if_pos c17] at H
           have c17b0 : decide (x5_2 < (l0_0.length : Int)) = true := decide_eq_true c17
           clear c17
           have H' := Aside0.mk H
           clear H
           have hcz18_0 : wr.cell? ⟨gb125, 0, none⟩ = some (.slice A0_0 l0_0.length c0_0) := (blk_cell BK125.out 0).trans rfl
           have hfz18_0 := blk_frozen BK125.out 0
           go_wp2
           go_loopg [4, 6] k2 (fun kq v4 v6 w' => ∃ (x3_3 : List Bool) (x4_3 : Bool) (x6_3 : Int), v4 = .bool x4_3 ∧ v6 = .int .i64 x6_3 ∧ Aside0 (spec_FlowReach.l2 kq x3_3 x4_3 x5_2 x6_3 l0_0 = some r) ∧ Aside0 (kq ≤ k2) ∧ Aside0 (Kd.R Kd.bool 4 w' w.heap.size (fun _ => True) (.slice (some ⟨go7, 0, none⟩) x3_2.length co7) x3_3) ∧ Aside0 (w'.heap[gb125]? = some (.cells #[(.slice A0_0 l0_0.length c0_0)] 29 (0, 0))) ∧ Aside0 (Below w.heap.size w w'))
           case atStart => exact ⟨(x3_2), (x4_2), (0), (by first | rfl | (simp; done) | (simp [*]; done)), (by first | rfl | (simp; done) | (simp [*]; done)), H', ⟨Nat.le_refl _⟩, ⟨by (try simp only [hl3_1]); (try simp only [hl3_2]); (with_reducible repeat (first | apply Kd.R_alloc | apply Kd.R_drewN | apply Kd.R_drew)); exact HO_3.out⟩, ⟨by (try simp only [hl3_1]); (try simp only [hl3_2]); (with_reducible repeat (first | refine blk_drewN ?_ _ | refine blk_drew ?_ | refine blk_alloc ?_ _)); exact BK125.out⟩, ⟨by repeat (first | (with_reducible first | exact HB.out | apply below_alloc | apply pw_below_drewN | apply below_drew1 | refine below_set ?_ GE125.out) | exact HB.out)⟩⟩
           case round =>
            clear H'
            (try clear c3); (try clear c4); (try clear c4b0); (try clear c4b1); (try clear c5); (try clear c5b0); (try clear c5b1); (try clear c6); (try clear c6b0); (try clear c6b1); (try clear p7); (try clear q7); (try clear qi7); (try clear c16); (try clear c17); (try clear c17b0); (try clear hcz11_0); (try clear hcz18_0); (try clear hcz9_0); (try clear hfz11_0); (try clear hfz18_0); (try clear hfz9_0); (try clear hx7_0)
            obtain ⟨x3_3, x4_3, x6_3, rfl, rfl, HA, HK3, HO_3, BK125, HB⟩ := hrel
            have hl3_3 := (Kd.R_reads' HO_3.out).1
            rw [hl3_3] at HO_3
            (try simp only [hl3_3])
            (try simp only [hl3_3] at BK125)
            cases gk with
            | zero => exact absurd HA.out (by simp [spec_FlowReach.l2])
            | succ k3 =>
             have H := HA.out
             clear HA
             simp only [spec_FlowReach.l2] at H
             have HC19 := Aside0.mk H
             clear H
             go_upto_region 12 with (fail)
             go_cut [39] (fun v39 wc => ∃ (kq : Nat) (x39_18 : Bool), v39 = .bool x39_18 ∧ Aside0 (spec_FlowReach.j3 kq x3_3 x4_3 x5_2 x6_3 x39_18 l0_0 = some r) ∧ Aside0 (kq ≤ k3) ∧ Aside0 (Kd.R Kd.bool 4 wc w.heap.size (fun _ => True) (.slice (some ⟨go7, 0, none⟩) x3_3.length co7) x3_3) ∧ Aside0 (wc.heap[gb125]? = some (.cells #[(.slice A0_0 l0_0.length c0_0)] 29 (0, 0))) ∧ Aside0 (Below w.heap.size w wc))
             case first =>
              have H := HC19.out
              clear HC19
              by_cases c20 : 0 ≤ x5_2
              ·rw [if_pos c20] at H
               have c20b0 : decide (0 ≤ x5_2) = true := decide_eq_true c20
               clear c20
               (first | rw [c20b0] | (simp only [i64_w, i32_w]; rw [c20b0]) | skip)
               by_cases c21 : x5_2 < (l0_0.length : Int)
               ·rw [if_pos c21] at H
                have c21b0 : decide (x5_2 < (l0_0.length : Int)) = true := decide_eq_true c21
                clear c21
                by_cases c22 : x6_3 < (((rd_T68 l0_0 x5_2).f5).length : Int)
                ·rw [if_pos c22] at H
                 have c22b0 : decide (x6_3 < (((rd_T68 l0_0 x5_2).f5).length : Int)) = true := decide_eq_true c22
                 clear c22
                 by_cases c23 : x5_2 < (x3_3.length : Int)
                 ·rw [if_pos c23] at H
                  have c23b0 : decide (x5_2 < (x3_3.length : Int)) = true := decide_eq_true c23
                  clear c23
                  have H' := Aside0.mk H
                  clear H
                  have hcz24_0 : wr.cell? ⟨gb125, 0, none⟩ = some (.slice A0_0 l0_0.length c0_0) := (blk_cell BK125.out 0).trans rfl
                  have hfz24_0 := blk_frozen BK125.out 0
                  have p134 : 0 ≤ (x5_2 : Int) := of_decide_eq_true (by first | (with_reducible assumption) | assumption)
                  have q134 : x5_2 < (l0_0.length : Int) := of_decide_eq_true (by first | (with_reducible assumption) | assumption)
                  obtain ⟨ad134, A134_7, c134_7, e134, hx134_0, hx134_1, hx134_2, hx134_3, hx134_4, hx134_5, hx134_6, hx134_7, hl134_7, hi134_7⟩ := at_T68 HR0_0.out x5_2 p134 q134
                  cases e134
                  replace hx134_0 := (HB.out.cell (World.block_lt_of_cell? w _ hx134_0)).trans hx134_0
                  replace hx134_1 := (HB.out.cell (World.block_lt_of_cell? w _ hx134_1)).trans hx134_1
                  replace hx134_2 := (HB.out.cell (World.block_lt_of_cell? w _ hx134_2)).trans hx134_2
                  replace hx134_3 := (HB.out.cell (World.block_lt_of_cell? w _ hx134_3)).trans hx134_3
                  replace hx134_4 := (HB.out.cell (World.block_lt_of_cell? w _ hx134_4)).trans hx134_4
                  replace hx134_5 := (HB.out.cell (World.block_lt_of_cell? w _ hx134_5)).trans hx134_5
                  replace hx134_6 := (HB.out.cell (World.block_lt_of_cell? w _ hx134_6)).trans hx134_6
                  replace hx134_7 := (HB.out.cell (World.block_lt_of_cell? w _ hx134_7)).trans hx134_7
                  have HR134_7 := Aside0.mk hi134_7
                  have HC134_7 := Aside0.mk hl134_7
                  clear hi134_7 hl134_7
                  replace p134 := eq_true p134
                  replace q134 := eq_true q134
                  have p135 : 0 ≤ (x5_2 : Int) := of_decide_eq_true (by first | (with_reducible assumption) | assumption)
                  have q135 : x5_2 < (x3_3.length : Int) := of_decide_eq_true (by first | (with_reducible assumption) | assumption)
                  try (obtain ⟨Av_, cv_, ev_⟩ := Kd.R_slice HO_3.out; subst ev_)
                  obtain ⟨ad135, e135, hx135_0⟩ := Kd.at_bool (Kd.R_reads' HO_3.out).2.2 x5_2 p135 q135
                  obtain rfl : (⟨go7, 0, none⟩ : Addr) = ad135 := (by injection e135)
                  (first | simp only [add_plain] at hx135_0 | simp only [add_at] at hx135_0 | simp only [Addr.add, Nat.zero_add] at hx135_0 | skip)
                  replace p135 := eq_true p135
                  replace q135 := eq_true q135
                  go_wp2
                  go_meet
                  case rel => exact ⟨_, (rdOf false x3_3 x5_2), (by first | rfl | (simp; done) | (simp [*]; done)), H', ⟨by have := HK1.out; have := HK2.out; have := HK3.out; first | omega | exact Nat.le_refl _⟩, ⟨by (try simp only [hl3_1]); (try simp only [hl3_2]); (try simp only [hl3_3]); (with_reducible repeat (first | apply Kd.R_alloc | apply Kd.R_drewN | apply Kd.R_drew)); exact HO_3.out⟩, ⟨by (try simp only [hl3_1]); (try simp only [hl3_2]); (try simp only [hl3_3]); (with_reducible repeat (first | refine blk_drewN ?_ _ | refine blk_drew ?_ | refine blk_alloc ?_ _)); exact BK125.out⟩, ⟨by repeat (first | (with_reducible first | exact HB.out | apply below_alloc | apply pw_below_drewN | apply below_drew1 | refine below_set ?_ GE125.out) | exact HB.out)⟩⟩
                 ·rw [if_neg c23] at H
                  exact absurd H (by simp)
                ·rw [if_neg c22] at H
                 have c22b0 : decide (x6_3 < (((rd_T68 l0_0 x5_2).f5).length : Int)) = false := decide_eq_false c22
                 clear c22
                 have H' := Aside0.mk H
                 clear H
                 have hcz25_0 : wr.cell? ⟨gb125, 0, none⟩ = some (.slice A0_0 l0_0.length c0_0) := (blk_cell BK125.out 0).trans rfl
                 have hfz25_0 := blk_frozen BK125.out 0
                 have p134 : 0 ≤ (x5_2 : Int) := of_decide_eq_true (by first | (with_reducible assumption) | assumption)
                 have q134 : x5_2 < (l0_0.length : Int) := of_decide_eq_true (by first | (with_reducible assumption) | assumption)
                 obtain ⟨ad134, A134_7, c134_7, e134, hx134_0, hx134_1, hx134_2, hx134_3, hx134_4, hx134_5, hx134_6, hx134_7, hl134_7, hi134_7⟩ := at_T68 HR0_0.out x5_2 p134 q134
                 cases e134
                 replace hx134_0 := (HB.out.cell (World.block_lt_of_cell? w _ hx134_0)).trans hx134_0
                 replace hx134_1 := (HB.out.cell (World.block_lt_of_cell? w _ hx134_1)).trans hx134_1
                 replace hx134_2 := (HB.out.cell (World.block_lt_of_cell? w _ hx134_2)).trans hx134_2
                 replace hx134_3 := (HB.out.cell (World.block_lt_of_cell? w _ hx134_3)).trans hx134_3
                 replace hx134_4 := (HB.out.cell (World.block_lt_of_cell? w _ hx134_4)).trans hx134_4
                 replace hx134_5 := (HB.out.cell (World.block_lt_of_cell? w _ hx134_5)).trans hx134_5
                 replace hx134_6 := (HB.out.cell (World.block_lt_of_cell? w _ hx134_6)).trans hx134_6
                 replace hx134_7 := (HB.out.cell (World.block_lt_of_cell? w _ hx134_7)).trans hx134_7
                 have HR134_7 := Aside0.mk hi134_7
                 have HC134_7 := Aside0.mk hl134_7
                 clear hi134_7 hl134_7
                 replace p134 := eq_true p134
                 replace q134 := eq_true q134
                 go_wp2
                 go_meet
                 case rel => exact ⟨_, (false), (by first | rfl | (simp; done) | (simp [*]; done)), H', ⟨by have := HK1.out; have := HK2.out; have := HK3.out; first | omega | exact Nat.le_refl _⟩, ⟨by (try simp only [hl3_1]); (try simp only [hl3_2]); (try simp only [hl3_3]); (with_reducible repeat (first | apply Kd.R_alloc | apply Kd.R_drewN | apply Kd.R_drew)); exact HO_3.out⟩, ⟨by (try simp only [hl3_1]); (try simp only [hl3_2]); (try simp only [hl3_3]); (with_reducible repeat (first | refine blk_drewN ?_ _ | refine blk_drew ?_ | refine blk_alloc ?_ _)); exact BK125.out⟩, ⟨by repeat (first | (with_reducible first | exact HB.out | apply below_alloc | apply pw_below_drewN | apply below_drew1 | refine below_set ?_ GE125.out) | exact HB.out)⟩⟩
               ·rw [if_neg c21] at H
                exact absurd H (by simp)
              ·rw [if_neg c20] at H
               exact absurd H (by simp)
             case rest =>
              clear HC19
              (try clear c3); (try clear c4); (try clear c4b0); (try clear c4b1); (try clear c5); (try clear c5b0); (try clear c5b1); (try clear c6); (try clear c6b0); (try clear c6b1); (try clear p7); (try clear q7); (try clear qi7); (try clear c16); (try clear c17); (try clear c17b0); (try clear hcz11_0); (try clear hcz18_0); (try clear hcz9_0); (try clear hfz11_0); (try clear hfz18_0); (try clear hfz9_0); (try clear hx7_0)
              obtain ⟨kq, x39_18, rfl, HA, HJ18, HO_3, BK125, HB⟩ := hcut
              cases kq with
              | zero => exact absurd HA.out (by simp [spec_FlowReach.j3])
              | succ kj18 =>
               have H := HA.out
               clear HA
               simp only [spec_FlowReach.j3] at H
               by_cases c26 : x39_18 = true
               ·subst c26
                have H1 : (if 0 ≤ x5_2 then (if x5_2 < (l0_0.length : Int) then (if 0 ≤ x6_3 then (if x6_3 < (((rd_T68 l0_0 x5_2).f5).length : Int) then (if 0 ≤ (rd ((rd_T68 l0_0 x5_2).f5) x6_3) then (if (rd ((rd_T68 l0_0 x5_2).f5) x6_3) < (x3_3.length : Int) then (if (rdOf false x3_3 (rd ((rd_T68 l0_0 x5_2).f5) x6_3) = true) then (spec_FlowReach.l2 kj18 x3_3 x4_3 x5_2 (wrap64 (x6_3 + 1)) l0_0) else (spec_FlowReach.l2 kj18 (x3_3.set ((rd ((rd_T68 l0_0 x5_2).f5) x6_3) : Int).toNat true) true x5_2 (wrap64 (x6_3 + 1)) l0_0)) else (none)) else (none)) else (none)) else (none)) else (none)) else (none)) = some r := by rw [if_pos rfl] at H; exact H
                clear H
                have H := H1
                clear H1
                by_cases c27 : 0 ≤ x5_2
                ·rw [if_pos c27] at H
                 have c27b0 : decide (0 ≤ x5_2) = true := decide_eq_true c27
                 clear c27
                 by_cases c28 : x5_2 < (l0_0.length : Int)
                 ·rw [if_pos c28] at H
                  have c28b0 : decide (x5_2 < (l0_0.length : Int)) = true := decide_eq_true c28
                  clear c28
                  by_cases c29 : 0 ≤ x6_3
                  ·rw [if_pos c29] at H
                   have c29b0 : decide (0 ≤ x6_3) = true := decide_eq_true c29
                   clear c29
                   by_cases c30 : x6_3 < (((rd_T68 l0_0 x5_2).f5).length : Int)
                   ·rw [if_pos c30] at H
                    have c30b0 : decide (x6_3 < (((rd_T68 l0_0 x5_2).f5).length : Int)) = true := decide_eq_true c30
                    clear c30
                    by_cases c31 : 0 ≤ (rd ((rd_T68 l0_0 x5_2).f5) x6_3)
                    ·rw [if_pos c31] at H
                     have c31b0 : decide (0 ≤ (rd ((rd_T68 l0_0 x5_2).f5) x6_3)) = true := decide_eq_true c31
                     clear c31
                     by_cases c32 : (rd ((rd_T68 l0_0 x5_2).f5) x6_3) < (x3_3.length : Int)
                     ·rw [if_pos c32] at H
                      have c32b0 : decide ((rd ((rd_T68 l0_0 x5_2).f5) x6_3) < (x3_3.length : Int)) = true := decide_eq_true c32
                      clear c32
                      obtain ⟨bq33, hbq33⟩ : ∃ b_ : Bool, b_ = (rdOf false x3_3 (rd ((rd_T68 l0_0 x5_2).f5) x6_3)) := ⟨_, rfl⟩
                      replace H : (if (bq33 = true) then (spec_FlowReach.l2 kj18 x3_3 x4_3 x5_2 (wrap64 (x6_3 + 1)) l0_0) else (spec_FlowReach.l2 kj18 (x3_3.set ((rd ((rd_T68 l0_0 x5_2).f5) x6_3) : Int).toNat true) true x5_2 (wrap64 (x6_3 + 1)) l0_0)) = some r := by rw [← hbq33] at H; exact H
                      have Nbq33 := Aside0.mk hbq33
                      clear hbq33
                      by_cases c34 : (bq33 = true)
                      ·subst c34
                       have H1 : (spec_FlowReach.l2 kj18 x3_3 x4_3 x5_2 (wrap64 (x6_3 + 1)) l0_0) = some r := by rw [if_pos rfl] at H; exact H
                       clear H
                       have H := H1
                       clear H1
                       have H' := Aside0.mk H
                       clear H
                       have hcz35_0 : wc.cell? ⟨gb125, 0, none⟩ = some (.slice A0_0 l0_0.length c0_0) := (blk_cell BK125.out 0).trans rfl
                       have hfz35_0 := blk_frozen BK125.out 0
                       have p136 : 0 ≤ (x5_2 : Int) := of_decide_eq_true (by first | (with_reducible assumption) | assumption)
                       have q136 : x5_2 < (l0_0.length : Int) := of_decide_eq_true (by first | (with_reducible assumption) | assumption)
                       obtain ⟨ad136, A136_7, c136_7, e136, hx136_0, hx136_1, hx136_2, hx136_3, hx136_4, hx136_5, hx136_6, hx136_7, hl136_7, hi136_7⟩ := at_T68 HR0_0.out x5_2 p136 q136
                       cases e136
                       replace hx136_0 := (HB.out.cell (World.block_lt_of_cell? w _ hx136_0)).trans hx136_0
                       replace hx136_1 := (HB.out.cell (World.block_lt_of_cell? w _ hx136_1)).trans hx136_1
                       replace hx136_2 := (HB.out.cell (World.block_lt_of_cell? w _ hx136_2)).trans hx136_2
                       replace hx136_3 := (HB.out.cell (World.block_lt_of_cell? w _ hx136_3)).trans hx136_3
                       replace hx136_4 := (HB.out.cell (World.block_lt_of_cell? w _ hx136_4)).trans hx136_4
                       replace hx136_5 := (HB.out.cell (World.block_lt_of_cell? w _ hx136_5)).trans hx136_5
                       replace hx136_6 := (HB.out.cell (World.block_lt_of_cell? w _ hx136_6)).trans hx136_6
                       replace hx136_7 := (HB.out.cell (World.block_lt_of_cell? w _ hx136_7)).trans hx136_7
                       have HR136_7 := Aside0.mk hi136_7
                       have HC136_7 := Aside0.mk hl136_7
                       clear hi136_7 hl136_7
                       replace p136 := eq_true p136
                       replace q136 := eq_true q136
                       have p137 : 0 ≤ (x6_3 : Int) := of_decide_eq_true (by first | (with_reducible assumption) | assumption)
                       have q137 : x6_3 < (((rd_T68 l0_0 x5_2).f5).length : Int) := of_decide_eq_true (by first | (with_reducible assumption) | assumption)
                       obtain ⟨ad137, e137, hx137_0⟩ := Kd.at_int HR136_7.out x6_3 p137 q137
                       cases e137
                       replace hx137_0 := (HB.out.cell (World.block_lt_of_cell? w _ hx137_0)).trans hx137_0
                       replace p137 := eq_true p137
                       replace q137 := eq_true q137
                       have p138 : 0 ≤ ((rd ((rd_T68 l0_0 x5_2).f5) x6_3) : Int) := of_decide_eq_true (by first | (with_reducible assumption) | assumption)
                       have q138 : (rd ((rd_T68 l0_0 x5_2).f5) x6_3) < (x3_3.length : Int) := of_decide_eq_true (by first | (with_reducible assumption) | assumption)
                       try (obtain ⟨Av_, cv_, ev_⟩ := Kd.R_slice HO_3.out; subst ev_)
                       obtain ⟨ad138, e138, hx138_0⟩ := Kd.at_bool (Kd.R_reads' HO_3.out).2.2 (rd ((rd_T68 l0_0 x5_2).f5) x6_3) p138 q138
                       (try rw [← Nbq33.out] at hx138_0)
                       obtain rfl : (⟨go7, 0, none⟩ : Addr) = ad138 := (by injection e138)
                       (first | simp only [add_plain] at hx138_0 | simp only [add_at] at hx138_0 | simp only [Addr.add, Nat.zero_add] at hx138_0 | skip)
                       replace p138 := eq_true p138
                       replace q138 := eq_true q138
                       go_wp2
                       (try simp only [← hl3_3])
                       go_roundg kj18
                       case measure => have := HK1.out; have := HK2.out; have := HK3.out; have := HJ18.out; omega
                       case rel => exact ⟨(x3_3), (x4_3), (wrap64 (x6_3 + 1)), (by first | rfl | (simp; done) | (simp [*]; done)), (by first | rfl | (simp; done) | (simp [*]; done)), H', ⟨by have := HK1.out; have := HK2.out; have := HK3.out; have := HJ18.out; omega⟩, ⟨by (try simp only [hl3_1]); (try simp only [hl3_2]); (try simp only [hl3_3]); (with_reducible repeat (first | apply Kd.R_alloc | apply Kd.R_drewN | apply Kd.R_drew)); exact HO_3.out⟩, ⟨by (try simp only [hl3_1]); (try simp only [hl3_2]); (try simp only [hl3_3]); (with_reducible repeat (first | refine blk_drewN ?_ _ | refine blk_drew ?_ | refine blk_alloc ?_ _)); exact BK125.out⟩, ⟨by repeat (first | (with_reducible first | exact HB.out | apply below_alloc | apply pw_below_drewN | apply below_drew1 | refine below_set ?_ GE125.out) | exact HB.out)⟩⟩
                      ·replace c34 := Bool.eq_false_iff.mpr c34
                       subst c34
                       have H1 : (spec_FlowReach.l2 kj18 (x3_3.set ((rd ((rd_T68 l0_0 x5_2).f5) x6_3) : Int).toNat true) true x5_2 (wrap64 (x6_3 + 1)) l0_0) = some r := by rw [if_neg (show ¬ (false = true) by decide)] at H; exact H
                       clear H
                       have H := H1
                       clear H1
                       obtain ⟨y141, hy141⟩ : ∃ y_ : List Bool, y_ = (x3_3.set ((rd ((rd_T68 l0_0 x5_2).f5) x6_3) : Int).toNat true) := ⟨_, rfl⟩
                       replace H : (spec_FlowReach.l2 kj18 y141 true x5_2 (wrap64 (x6_3 + 1)) l0_0) = some r := by first | (rw [hy141]; with_reducible exact H) | (have H2_ := (Option.bind_some _ _).symm.trans H; rw [hy141]; with_reducible exact H2_) | (have H2_ := (Option.bind_some _ _).symm.trans H; with_reducible exact H2_) | with_reducible exact H | (rw [hy141]; exact H) | exact H
                       have Ny141 := Aside0.mk hy141
                       clear hy141
                       have H' := Aside0.mk H
                       clear H
                       have hcz37_0 : wc.cell? ⟨gb125, 0, none⟩ = some (.slice A0_0 l0_0.length c0_0) := (blk_cell BK125.out 0).trans rfl
                       have hfz37_0 := blk_frozen BK125.out 0
                       have p136 : 0 ≤ (x5_2 : Int) := of_decide_eq_true (by first | (with_reducible assumption) | assumption)
                       have q136 : x5_2 < (l0_0.length : Int) := of_decide_eq_true (by first | (with_reducible assumption) | assumption)
                       obtain ⟨ad136, A136_7, c136_7, e136, hx136_0, hx136_1, hx136_2, hx136_3, hx136_4, hx136_5, hx136_6, hx136_7, hl136_7, hi136_7⟩ := at_T68 HR0_0.out x5_2 p136 q136
                       cases e136
                       replace hx136_0 := (HB.out.cell (World.block_lt_of_cell? w _ hx136_0)).trans hx136_0
                       replace hx136_1 := (HB.out.cell (World.block_lt_of_cell? w _ hx136_1)).trans hx136_1
                       replace hx136_2 := (HB.out.cell (World.block_lt_of_cell? w _ hx136_2)).trans hx136_2
                       replace hx136_3 := (HB.out.cell (World.block_lt_of_cell? w _ hx136_3)).trans hx136_3
                       replace hx136_4 := (HB.out.cell (World.block_lt_of_cell? w _ hx136_4)).trans hx136_4
                       replace hx136_5 := (HB.out.cell (World.block_lt_of_cell? w _ hx136_5)).trans hx136_5
                       replace hx136_6 := (HB.out.cell (World.block_lt_of_cell? w _ hx136_6)).trans hx136_6
                       replace hx136_7 := (HB.out.cell (World.block_lt_of_cell? w _ hx136_7)).trans hx136_7
                       have HR136_7 := Aside0.mk hi136_7
                       have HC136_7 := Aside0.mk hl136_7
                       clear hi136_7 hl136_7
                       replace p136 := eq_true p136
                       replace q136 := eq_true q136
                       have p137 : 0 ≤ (x6_3 : Int) := of_decide_eq_true (by first | (with_reducible assumption) | assumption)
                       have q137 : x6_3 < (((rd_T68 l0_0 x5_2).f5).length : Int) := of_decide_eq_true (by first | (with_reducible assumption) | assumption)
                       obtain ⟨ad137, e137, hx137_0⟩ := Kd.at_int HR136_7.out x6_3 p137 q137
                       cases e137
                       replace hx137_0 := (HB.out.cell (World.block_lt_of_cell? w _ hx137_0)).trans hx137_0
                       replace p137 := eq_true p137
                       replace q137 := eq_true q137
                       have p138 : 0 ≤ ((rd ((rd_T68 l0_0 x5_2).f5) x6_3) : Int) := of_decide_eq_true (by first | (with_reducible assumption) | assumption)
                       have q138 : (rd ((rd_T68 l0_0 x5_2).f5) x6_3) < (x3_3.length : Int) := of_decide_eq_true (by first | (with_reducible assumption) | assumption)
                       try (obtain ⟨Av_, cv_, ev_⟩ := Kd.R_slice HO_3.out; subst ev_)
                       obtain ⟨ad138, e138, hx138_0⟩ := Kd.at_bool (Kd.R_reads' HO_3.out).2.2 (rd ((rd_T68 l0_0 x5_2).f5) x6_3) p138 q138
                       (try rw [← Nbq33.out] at hx138_0)
                       obtain rfl : (⟨go7, 0, none⟩ : Addr) = ad138 := (by injection e138)
                       (first | simp only [add_plain] at hx138_0 | simp only [add_at] at hx138_0 | simp only [Addr.add, Nat.zero_add] at hx138_0 | skip)
                       replace p138 := eq_true p138
                       replace q138 := eq_true q138
                       have p139 : 0 ≤ (x5_2 : Int) := of_decide_eq_true (by first | (with_reducible assumption) | assumption)
                       have q139 : x5_2 < (l0_0.length : Int) := of_decide_eq_true (by first | (with_reducible assumption) | assumption)
                       obtain ⟨ad139, A139_7, c139_7, e139, hx139_0, hx139_1, hx139_2, hx139_3, hx139_4, hx139_5, hx139_6, hx139_7, hl139_7, hi139_7⟩ := at_T68 HR0_0.out x5_2 p139 q139
                       obtain rfl : ad136 = ad139 := (by injection e139)
                       replace hx139_0 := (HB.out.cell (World.block_lt_of_cell? w _ hx139_0)).trans hx139_0
                       replace hx139_1 := (HB.out.cell (World.block_lt_of_cell? w _ hx139_1)).trans hx139_1
                       replace hx139_2 := (HB.out.cell (World.block_lt_of_cell? w _ hx139_2)).trans hx139_2
                       replace hx139_3 := (HB.out.cell (World.block_lt_of_cell? w _ hx139_3)).trans hx139_3
                       replace hx139_4 := (HB.out.cell (World.block_lt_of_cell? w _ hx139_4)).trans hx139_4
                       replace hx139_5 := (HB.out.cell (World.block_lt_of_cell? w _ hx139_5)).trans hx139_5
                       replace hx139_6 := (HB.out.cell (World.block_lt_of_cell? w _ hx139_6)).trans hx139_6
                       replace hx139_7 := (HB.out.cell (World.block_lt_of_cell? w _ hx139_7)).trans hx139_7
                       have HR139_7 := Aside0.mk hi139_7
                       have HC139_7 := Aside0.mk hl139_7
                       clear hi139_7 hl139_7
                       replace p139 := eq_true p139
                       replace q139 := eq_true q139
                       have ea_ := Option.some.inj (hx136_7.symm.trans hx139_7)
                       injection ea_ with ea_ en_ ec_
                       subst ea_
                       subst ec_
                       clear en_
                       have p140 : 0 ≤ (x6_3 : Int) := of_decide_eq_true (by first | (with_reducible assumption) | assumption)
                       have q140 : x6_3 < (((rd_T68 l0_0 x5_2).f5).length : Int) := of_decide_eq_true (by first | (with_reducible assumption) | assumption)
                       obtain ⟨ad140, e140, hx140_0⟩ := Kd.at_int HR139_7.out x6_3 p140 q140
                       cases e140
                       replace hx140_0 := (HB.out.cell (World.block_lt_of_cell? w _ hx140_0)).trans hx140_0
                       replace p140 := eq_true p140
                       replace q140 := eq_true q140
                       have p36 : 0 ≤ ((rd ((rd_T68 l0_0 x5_2).f5) x6_3) : Int) := of_decide_eq_true (by first | (with_reducible assumption) | assumption)
                       have q36 : ((rd ((rd_T68 l0_0 x5_2).f5) x6_3) : Int) < ((x3_3.length : Int) : Int) := of_decide_eq_true (by first | (with_reducible assumption) | assumption)
                       obtain ⟨hx36_0, hf36_0⟩ := Kd.R_celln false HO_3.out ((rd ((rd_T68 l0_0 x5_2).f5) x6_3) : Int) p36 q36
                       replace p36 := eq_true p36
                       replace q36 := eq_true q36
                       have HP38 := Kd.R_putg HO_3.out ((rd ((rd_T68 l0_0 x5_2).f5) x6_3) : Int) true
                       go_wp2_with (first | ((with_reducible refine gate_store (t := 4) (p := 65) rfl ?_); refine store_event (t := 4) (p := 65) (v := ?vo_w39) (w1 := (wc.setCell ⟨go7, ((rd ((rd_T68 l0_0 x5_2).f5) x6_3) : Int).toNat, none⟩ (.bool true))) ?hg ?ho ?hn ?hr ?_; (case ho => rfl); (case hg => rfl); (case hn => rfl); (case hr => first | (go_simp; done) | (go_simp; rfl)); intro w39 hw; have hg : wc.grownBy w39 (some go7) := (by rw [hw]; exact HP38.2); have hp_ : Kd.R Kd.bool 4 w39 w.heap.size (fun _ => True) (.slice (some ⟨go7, 0, none⟩) x3_3.length co7) y141 := (by rw [hw, Ny141.out]; exact HP38.1); clear HP38; have n0_ := Aside0.mk (hp_); have n1_ := Aside0.mk (blk_grown (g := gb125) (o := .cells #[.slice (some ad136) l0_0.length c0_0] 29 (0, 0)) (by (with_reducible repeat (first | refine blk_drewN ?_ _ | refine blk_drew ?_ | refine blk_alloc ?_ _)); exact BK125.out) hg (Kd.R_ne HO_3.out BK125.out (by decide))); have n2_ := Aside0.mk ((by rw [hw]; exact below_set (HB.out) GB7.out : Below w.heap.size w w39)); clear HO_3; clear BK125; clear HB; have HO_3 := n0_; have BK125 := n1_; have HB := n2_; clear n0_ n1_ n2_; clear hg hw hp_))
                       (try simp only [← hl3_3])
                       go_roundg kj18
                       case measure => have := HK1.out; have := HK2.out; have := HK3.out; have := HJ18.out; omega
                       case rel => exact ⟨(y141), (true), (wrap64 (x6_3 + 1)), (by first | rfl | (simp; done) | (simp [*]; done)), (by first | rfl | (simp; done) | (simp [*]; done)), H', ⟨by have := HK1.out; have := HK2.out; have := HK3.out; have := HJ18.out; omega⟩, ⟨by (try simp only [hl3_1]); (try simp only [hl3_2]); (try simp only [hl3_3]); (with_reducible repeat (first | apply Kd.R_alloc | apply Kd.R_drewN | apply Kd.R_drew)); exact HO_3.out⟩, ⟨by (try simp only [hl3_1]); (try simp only [hl3_2]); (try simp only [hl3_3]); (with_reducible repeat (first | refine blk_drewN ?_ _ | refine blk_drew ?_ | refine blk_alloc ?_ _)); exact BK125.out⟩, ⟨by repeat (first | (with_reducible first | exact HB.out | apply below_alloc | apply pw_below_drewN | apply below_drew1 | refine below_set ?_ GE125.out) | exact HB.out)⟩⟩
                     ·rw [if_neg c32] at H
                      exact absurd H (by simp)
                    ·rw [if_neg c31] at H
                     exact absurd H (by simp)
                   ·rw [if_neg c30] at H
                    exact absurd H (by simp)
                  ·rw [if_neg c29] at H
                   exact absurd H (by simp)
                 ·rw [if_neg c28] at H
                  exact absurd H (by simp)
                ·rw [if_neg c27] at H
                 exact absurd H (by simp)
               ·replace c26 := Bool.eq_false_iff.mpr c26
                subst c26
                have H1 : (spec_FlowReach.l1 kj18 x3_3 x4_3 (wrap64 (x5_2 + 1)) l0_0) = some r := by rw [if_neg (show ¬ (false = true) by decide)] at H; exact H
                clear H
                have H := H1
                clear H1
                have H' := Aside0.mk H
                clear H
                go_wp2
                (try simp only [← hl3_2, ← hl3_3])
                go_roundg kj18
                case measure => have := HK1.out; have := HK2.out; have := HK3.out; have := HJ18.out; omega
                case rel => exact ⟨(x3_3), (x4_3), (wrap64 (x5_2 + 1)), (by first | rfl | (simp; done) | (simp [*]; done)), (by first | rfl | (simp; done) | (simp [*]; done)), H', ⟨by have := HK1.out; have := HK2.out; have := HK3.out; have := HJ18.out; omega⟩, ⟨by (try simp only [hl3_1]); (try simp only [hl3_2]); (try simp only [hl3_3]); (with_reducible repeat (first | apply Kd.R_alloc | apply Kd.R_drewN | apply Kd.R_drew)); exact HO_3.out⟩, ⟨by (try simp only [hl3_1]); (try simp only [hl3_2]); (try simp only [hl3_3]); (with_reducible repeat (first | refine blk_drewN ?_ _ | refine blk_drew ?_ | refine blk_alloc ?_ _)); exact BK125.out⟩, ⟨by repeat (first | (with_reducible first | exact HB.out | apply below_alloc | apply pw_below_drewN | apply below_drew1 | refine below_set ?_ GE125.out) | exact HB.out)⟩⟩
          ·rw [if_neg c17] at H
           have c17b0 : decide (x5_2 < (l0_0.length : Int)) = false := decide_eq_false c17
           clear c17
           have H' := Aside0.mk H
           clear H
           have hcz40_0 : wr.cell? ⟨gb125, 0, none⟩ = some (.slice A0_0 l0_0.length c0_0) := (blk_cell BK125.out 0).trans rfl
           have hfz40_0 := blk_frozen BK125.out 0
           go_wp2
           (try simp only [← hl3_1, ← hl3_2])
           go_roundg k2
           case measure => have := HK1.out; have := HK2.out; omega
           case rel => exact ⟨(x3_2), (x4_2), (by first | rfl | (simp; done) | (simp [*]; done)), H', ⟨by have := HK1.out; have := HK2.out; omega⟩, ⟨by (try simp only [hl3_1]); (try simp only [hl3_2]); (with_reducible repeat (first | apply Kd.R_alloc | apply Kd.R_drewN | apply Kd.R_drew)); exact HO_3.out⟩, ⟨by (try simp only [hl3_1]); (try simp only [hl3_2]); (with_reducible repeat (first | refine blk_drewN ?_ _ | refine blk_drew ?_ | refine blk_alloc ?_ _)); exact BK125.out⟩, ⟨by repeat (first | (with_reducible first | exact HB.out | apply below_alloc | apply pw_below_drewN | apply below_drew1 | refine below_set ?_ GE125.out) | exact HB.out)⟩⟩
       ·replace c16 := Bool.eq_false_iff.mpr c16
        subst c16
        have H1 : (some x3_1) = some r := by rw [if_neg (show ¬ (false = true) by decide)] at H; exact H
        clear H
        have H := H1
        clear H1
        obtain rfl := Option.some.inj H
        go_wp2
        go_ret
        exact ⟨_, by first | rfl | (simp [errW_none, errW_some] <;> rfl) | (simp [*, errW_none, errW_some] <;> rfl), by (with_reducible repeat (first | apply Kd.R_alloc | apply Kd.R_drewN | apply Kd.R_drew)); exact HO_3.out, by repeat (first | (with_reducible first | exact HB.out | apply below_alloc | apply pw_below_drewN | apply below_drew1 | refine below_set ?_ GE125.out) | exact HB.out)⟩
    ·rw [if_neg c6] at H
     exact absurd H (by simp)
   ·rw [if_neg c5] at H
    exact absurd H (by simp)
  ·rw [if_neg c4] at H
   exact absurd H (by simp)
 ·replace c3 := Bool.eq_false_iff.mpr c3
  subst c3
  have H1 : (some (([] : List Bool))) = some r := by rw [if_neg (show ¬ (false = true) by decide)] at H; exact H
  clear H
  have H := H1
  clear H1
  obtain ⟨y127, hy127⟩ : ∃ y_ : List Bool, y_ = (([] : List Bool)) := ⟨_, rfl⟩
  replace H : (some y127) = some r := by first | (rw [hy127]; with_reducible exact H) | (have H2_ := (Option.bind_some _ _).symm.trans H; rw [hy127]; with_reducible exact H2_) | (have H2_ := (Option.bind_some _ _).symm.trans H; with_reducible exact H2_) | with_reducible exact H | (rw [hy127]; exact H) | exact H
  have Ny127 := Aside0.mk hy127
  clear hy127
  obtain rfl := Option.some.inj H
  go_enter Try.func20, Try.ntmps20
  go_wp2_with (first | ((with_reducible refine gate_dst (N := 1) rfl ?_); refine box_event ?hg (N := 1) ?hd (cs := #[.slice A0_0 l0_0.length c0_0]) (t := 29) ?hr ?_; (case hd => rfl); (case hg => rfl); (case hr => first | (go_simp; done) | (go_simp; rfl)); intro gb125 hg w41 hbox hb; have n_ := boxed (bel HB.out) hb hbox hg; clear HB hb hbox hg; obtain ⟨HB, BK125, GW125, GE125⟩ := n_; have hcz42_0 : w41.cell? ⟨gb125, 0, none⟩ = some (.slice A0_0 l0_0.length c0_0) := (blk_cell BK125.out 0).trans rfl; have hfz42_0 := blk_frozen BK125.out 0) | ((with_reducible refine gate_callee (f := 60) rfl ?_); refine goesL_ (some 8) rfl rfl Try.func60 (by kernel_rfl) rfl #[.agg #[.slice A0_0 l0_0.length c0_0]] rfl (by (try simp only [List.map_toArray, List.map_cons, List.map_nil]); first | done | rfl | (simp only [List.length_drop, List.length_take]; rfl)) ?_; (with_reducible refine (spec_ProgOk.calls k _ _ l0_0 false _ ?side1 ?side2 A2.out).mono ?_); (case side1 => repeat (first | exact (Kd.C_below HR0_0.out HB.out) | (with_reducible refine Kd.C_alloc ?_ _) | (with_reducible refine Kd.C_drewN ?_ _) | (with_reducible refine Kd.C_drew ?_))); (case side2 => exact HC0_0.out); rintro e w43 ⟨rfl, hb⟩; refine ⟨_, rfl, ?_⟩; have n0_ := Aside0.mk (blk_below (g := gb125) (o := .cells #[.slice A0_0 l0_0.length c0_0] 29 (0, 0)) (by (with_reducible repeat (first | refine blk_drewN ?_ _ | refine blk_drew ?_ | refine blk_alloc ?_ _)); exact BK125.out) hb); have n1_ := Aside0.mk (below_step (by repeat (first | (with_reducible first | exact HB.out | apply below_alloc | apply pw_below_drewN | apply below_drew1 | refine below_set ?_ GE125.out) | exact HB.out)) hb); clear BK125; clear HB; have BK125 := n0_; have HB := n1_; clear n0_ n1_; (try clear hb); (try clear hb2); (try clear hk); (try clear hi)) | ((with_reducible refine gate_dst (N := 10) rfl ?_); refine Kd.R_lit Kd.bool _ 4 ?hg (N := 10) ?hd (xs := ([] : List Bool)) (inner := []) (ok := fun _ => True) (okp := fun _ => True) ?hr ?hp (fun _ hk => hk) trivial (Below.refl _ _) (Nat.le_refl _) (by simp) ?_; (case hd => rfl); (case hg => rfl); (case hr => first | (go_simp; done) | (go_simp; rfl)); (case hp => exact (Reps.none _ _)); intro v128 w44 ho45 hb hg_ hnew_; clear hg_ hnew_; (first | rw [← Ny127.out] at ho45 | (simp only [Int.reduceToNat] at ho45; rw [← Ny127.out] at ho45)); have n0_ := Aside0.mk (Kd.R_lower ho45 (below_size (by repeat (first | (with_reducible first | exact HB.out | apply below_alloc | apply pw_below_drewN | apply below_drew1 | refine below_set ?_ GE125.out) | exact HB.out)))); have n1_ := Aside0.mk (blk_below (g := gb125) (o := .cells #[.slice A0_0 l0_0.length c0_0] 29 (0, 0)) (by (with_reducible repeat (first | refine blk_drewN ?_ _ | refine blk_drew ?_ | refine blk_alloc ?_ _)); exact BK125.out) hb); have n2_ := Aside0.mk (below_step (by repeat (first | (with_reducible first | exact HB.out | apply below_alloc | apply pw_below_drewN | apply below_drew1 | refine below_set ?_ GE125.out) | exact HB.out)) hb); clear BK125; clear HB; have HO129 := n0_; have BK125 := n1_; have HB := n2_; clear n0_ n1_ n2_; clear hb ho45))
  go_ret
  exact ⟨_, by first | rfl | (simp [errW_none, errW_some] <;> rfl) | (simp [*, errW_none, errW_some] <;> rfl), by (with_reducible repeat (first | apply Kd.R_alloc | apply Kd.R_drewN | apply Kd.R_drew)); exact HO129.out, by repeat (first | (with_reducible first | exact HB.out | apply below_alloc | apply pw_below_drewN | apply below_drew1 | refine below_set ?_ GE125.out) | exact HB.out)⟩

mutual
def impl_Prog_reach.l0 : Nat → List Bool → List Int → List (S68) → Option (List Bool)
 | 0, _, _, _ => none
 | k + 1, x3, x4, x213000 => if (x4.length : Int) > 0 then (if 0 ≤ (wrap64 ((x4.length : Int) - 1)) then (if (wrap64 ((x4.length : Int) - 1)) < (x4.length : Int) then (if (wrap64 ((x4.length : Int) - 1)) ≤ (x4.length : Int) then (if 0 ≤ (rd x4 (wrap64 ((x4.length : Int) - 1))) then (if (rd x4 (wrap64 ((x4.length : Int) - 1))) < (x213000.length : Int) then (impl_Prog_reach.l1 k x3 (x4.take ((wrap64 ((x4.length : Int) - 1)) : Int).toNat) ((rd_T68 x213000 (rd x4 (wrap64 ((x4.length : Int) - 1)))).f5) (((rd_T68 x213000 (rd x4 (wrap64 ((x4.length : Int) - 1)))).f5).length : Int) 0 x213000) else (none)) else (none)) else (none)) else (none)) else (none)) else (some x3)
def impl_Prog_reach.l1 : Nat → List Bool → List Int → List Int → Int → Int → List (S68) → Option (List Bool)
 | 0, _, _, _, _, _, _ => none
 | k + 1, x3, x4, x34, x35, x36, x213000 => if x36 < x35 then (if 0 ≤ x36 then (if x36 < (x34.length : Int) then (if 0 ≤ (rd x34 x36) then (if (rd x34 x36) < (x3.length : Int) then (if (rdOf false x3 (rd x34 x36) = true) then (impl_Prog_reach.l1 k x3 x4 x34 x35 (wrap64 (x36 + 1)) x213000) else (if x4.length < 17592186044416 then (impl_Prog_reach.l1 k (x3.set ((rd x34 x36) : Int).toNat true) (x4 ++ [rd x34 x36]) x34 x35 (wrap64 (x36 + 1)) x213000) else (none))) else (none)) else (none)) else (none)) else (none)) else (impl_Prog_reach.l0 k x3 x4 x213000)
end
def impl_Prog_reach.f (k : Nat) (l0_0 : List (S68)) : Option (List Bool) := if 0 ≤ (l0_0.length : Int) then (if ((l0_0.length : Int) : Int).toNat ≤ 281474976710656 then ((some (List.replicate ((l0_0.length : Int) : Int).toNat false : List Bool)).bind fun y213 => (if 0 < (y213.length : Int) then (impl_Prog_reach.l0 k (y213.set (0 : Int).toNat true) (([0] : List Int)) l0_0) else (none))) else (none)) else (none)
set_option maxHeartbeats 8000000 in
set_option maxRecDepth 100000 in
theorem impl_Prog_reach.calls (k : Nat) (A0_0 : Option Addr) (c0_0 : Nat) (l0_0 : List (S68)) (r : List Bool) (w : World) (hr0_0 : Kd.C k68 w A0_0 l0_0.length l0_0) (hc0_0 : l0_0.length ≤ c0_0) (h : impl_Prog_reach.f k l0_0 = some r) :
  Calls Try.prog 65 #[.agg #[.slice A0_0 l0_0.length c0_0]] w fun e w' => ∃ v0_ : Value, e = .returned (v0_) ∧ Kd.R Kd.bool 4 w' w.heap.size (fun _ => True) v0_ r ∧ Below w.heap.size w w' := by
 have hu29 := Try.underlying29
 have HR0_0 := Aside0.mk hr0_0
 have HC0_0 := Aside0.mk hc0_0
 clear hr0_0 hc0_0
 have HB := Aside0.mk (Below.refl w.heap.size w)
 have H : (if 0 ≤ (l0_0.length : Int) then (if ((l0_0.length : Int) : Int).toNat ≤ 281474976710656 then ((some (List.replicate ((l0_0.length : Int) : Int).toNat false : List Bool)).bind fun y213 => (if 0 < (y213.length : Int) then (impl_Prog_reach.l0 k (y213.set (0 : Int).toNat true) (([0] : List Int)) l0_0) else (none))) else (none)) else (none)) = some r := h
 clear h
 by_cases c2 : 0 ≤ (l0_0.length : Int)
 ·rw [if_pos c2] at H
  have c2b0 := eq_true c2
  have c2b1 : decide (0 ≤ (l0_0.length : Int)) = true := decide_eq_true c2
  clear c2
  by_cases c3 : ((l0_0.length : Int) : Int).toNat ≤ 281474976710656
  ·rw [if_pos c3] at H
   have c3b0 := eq_true c3
   have c3b1 : decide (((l0_0.length : Int) : Int).toNat ≤ 281474976710656) = true := decide_eq_true c3
   clear c3
   obtain ⟨y213, hy213⟩ : ∃ y_ : List Bool, y_ = (List.replicate ((l0_0.length : Int) : Int).toNat false) := ⟨_, rfl⟩
   replace H : (if 0 < (y213.length : Int) then (impl_Prog_reach.l0 k (y213.set (0 : Int).toNat true) (([0] : List Int)) l0_0) else (none)) = some r := by first | (rw [hy213]; with_reducible exact H) | (have H2_ := (Option.bind_some _ _).symm.trans H; rw [hy213]; with_reducible exact H2_) | (have H2_ := (Option.bind_some _ _).symm.trans H; with_reducible exact H2_) | with_reducible exact H | (rw [hy213]; exact H) | exact H
   have Ny213 := Aside0.mk hy213
   clear hy213
   by_cases c4 : 0 < (y213.length : Int)
   ·rw [if_pos c4] at H
    have c4b0 : decide (0 < (y213.length : Int)) = true := decide_eq_true c4
    have c4b1 : decide (0 < y213.length) = true := decide_eq_true (by omega)
    clear c4
    obtain ⟨y216, hy216⟩ : ∃ y_ : List Bool, y_ = (y213.set (0 : Int).toNat true) := ⟨_, rfl⟩
    replace H : (impl_Prog_reach.l0 k y216 (([0] : List Int)) l0_0) = some r := by first | (rw [hy216]; with_reducible exact H) | (have H2_ := (Option.bind_some _ _).symm.trans H; rw [hy216]; with_reducible exact H2_) | (have H2_ := (Option.bind_some _ _).symm.trans H; with_reducible exact H2_) | with_reducible exact H | (rw [hy216]; exact H) | exact H
    have Ny216 := Aside0.mk hy216
    clear hy216
    obtain ⟨y217, hy217⟩ : ∃ y_ : List Int, y_ = (([0] : List Int)) := ⟨_, rfl⟩
    replace H : (impl_Prog_reach.l0 k y216 y217 l0_0) = some r := by first | (rw [hy217]; with_reducible exact H) | (have H2_ := (Option.bind_some _ _).symm.trans H; rw [hy217]; with_reducible exact H2_) | (have H2_ := (Option.bind_some _ _).symm.trans H; with_reducible exact H2_) | with_reducible exact H | (rw [hy217]; exact H) | exact H
    have Ny217 := Aside0.mk hy217
    clear hy217
    have H' := Aside0.mk H
    clear H
    go_enter Try.func65, Try.ntmps65
    go_wp2_with (first | ((with_reducible refine gate_dst (N := 1) rfl ?_); refine box_event ?hg (N := 1) ?hd (cs := #[.slice A0_0 l0_0.length c0_0]) (t := 29) ?hr ?_; (case hd => rfl); (case hg => rfl); (case hr => first | (go_simp; done) | (go_simp; rfl)); intro gb212 hg w6 hbox hb; have n_ := boxed (bel HB.out) hb hbox hg; clear HB hb hbox hg; obtain ⟨HB, BK212, GW212, GE212⟩ := n_; have hcz7_0 : w6.cell? ⟨gb212, 0, none⟩ = some (.slice A0_0 l0_0.length c0_0) := (blk_cell BK212.out 0).trans rfl; have hfz7_0 := blk_frozen BK212.out 0) | ((with_reducible refine gate_dst (N := 11) rfl ?_); refine Kd.R_make Kd.bool _ 4 rfl (N := 11) rfl 33 _ _ rfl (l0_0.length : Int) rfl rfl Try.underlying33 (.bool false) 1 info4 rfl (by decide) (by omega) false (ok := fun _ => True) (okp := fun _ => True) rfl (fun _ hk => hk) trivial (of_decide_eq_true (by first | (with_reducible assumption) | assumption)) (Nat.le_trans (Nat.mul_le_mul_right _ (of_decide_eq_true (by first | (with_reducible assumption) | assumption) : (l0_0.length : Int).toNat ≤ 281474976710656)) (by omega)) (Below.refl _ _) (Nat.le_refl _) ?_; intro v214 w8 ho9 hb hg_ hnew_; clear hg_ hnew_; (first | rw [← Ny213.out] at ho9 | (simp only [Int.reduceToNat] at ho9; rw [← Ny213.out] at ho9)); have n0_ := Aside0.mk (Kd.R_lower ho9 (below_size (by repeat (first | (with_reducible first | exact HB.out | apply below_alloc | apply pw_below_drewN | apply below_drew1 | refine below_set ?_ GE212.out) | exact HB.out)))); have n1_ := Aside0.mk (blk_below (g := gb212) (o := .cells #[.slice A0_0 l0_0.length c0_0] 29 (0, 0)) (by (with_reducible repeat (first | refine blk_drewN ?_ _ | refine blk_drew ?_ | refine blk_alloc ?_ _)); exact BK212.out) hb); have n2_ := Aside0.mk (below_step (by repeat (first | (with_reducible first | exact HB.out | apply below_alloc | apply pw_below_drewN | apply below_drew1 | refine below_set ?_ GE212.out) | exact HB.out)) hb); clear BK212; clear HB; have HO215 := n0_; have BK212 := n1_; have HB := n2_; clear n0_ n1_ n2_; clear hb ho9; have p5 : 0 ≤ (0 : Int) := (by omega); have q5 : (0 : Int) < ((y213.length : Int) : Int) := of_decide_eq_true (by first | (with_reducible assumption) | assumption); have qi5 : (0 < y213.length) = True := eq_true (by omega); obtain ⟨go5, co5, eo5, gb5, gl5, cl5, HG5⟩ := Kd.R_form HO215.out (by omega); (first | cases eo5 | (injection eo5 with ea_ en_ ec_; (first | subst ea_ | (injection ea_ with ea_; subst ea_)); subst ec_; clear en_)); have GB5 := Aside0.mk gb5; have GG5 := Aside0.mk HG5; clear gb5 gl5 HG5; obtain ⟨hx5_0, hf5_0⟩ := Kd.R_celln false HO215.out (0 : Int) p5 q5; (try rw [show ((0 : Int)).toNat = 0 from rfl] at hx5_0); (try simp only [Nat.reduceMul, Nat.zero_mul, Nat.zero_add, Nat.reduceAdd] at hx5_0); (try rw [show ((0 : Int)).toNat = 0 from rfl] at hf5_0); (try simp only [Nat.reduceMul, Nat.zero_mul, Nat.zero_add, Nat.reduceAdd] at hf5_0); replace p5 := eq_true p5; replace q5 := eq_true q5; obtain ⟨hy10_, hz10_⟩ := Kd.R_celln false HO215.out (0 : Int) (by omega) (of_decide_eq_true (by first | (with_reducible assumption) | assumption)); (try simp only [Int.reduceToNat, Int.toNat_zero, Int.toNat_ofNat, Nat.reduceMul, Nat.zero_mul, Nat.zero_add] at hy10_ hz10_); (try rw [show ((0 : Int)).toNat = 0 from rfl] at hy10_); (try rw [show ((0 : Int)).toNat = 0 from rfl] at hz10_); have HP10 := Kd.R_putg HO215.out (0 : Int) true) | ((with_reducible refine gate_store (t := 4) (p := 13) rfl ?_); refine store_event (t := 4) (p := 13) (v := ?vo_w11) (w1 := (w8.setCell ⟨go5, (0 : Int).toNat, none⟩ (.bool true))) ?hg ?ho ?hn ?hr ?_; (case ho => rfl); (case hg => rfl); (case hn => rfl); (case hr => first | (go_simp; done) | (go_simp; rfl)); intro w11 hw; have hg : w8.grownBy w11 (some go5) := (by rw [hw]; exact HP10.2); have hp_ : Kd.R Kd.bool 4 w11 w.heap.size (fun _ => True) (.slice (some ⟨go5, 0, none⟩) y213.length co5) y216 := (by rw [hw, Ny216.out]; exact HP10.1); clear HP10; have n0_ := Aside0.mk (blk_grown (g := gb212) (o := .cells #[.slice A0_0 l0_0.length c0_0] 29 (0, 0)) (by (with_reducible repeat (first | refine blk_drewN ?_ _ | refine blk_drew ?_ | refine blk_alloc ?_ _)); exact BK212.out) hg (Kd.R_ne HO215.out BK212.out (by decide))); have n1_ := Aside0.mk (hp_); have n2_ := Aside0.mk ((by rw [hw]; exact below_set (HB.out) GB5.out : Below w.heap.size w w11)); clear BK212; clear HO215; clear HB; have BK212 := n0_; have HO215 := n1_; have HB := n2_; clear n0_ n1_ n2_; clear hg hw hp_) | ((with_reducible refine gate_dst (N := 14) rfl ?_); refine Kd.R_lit (Kd.int .i64) _ 3 ?hg (N := 14) ?hd (xs := ([0] : List Int)) (inner := [.int .i64 0]) (ok := fun _ => True) (okp := fun _ => True) ?hr ?hp (fun _ hk => hk) trivial (Below.refl _ _) (Nat.le_refl _) (by simp) ?_; (case hd => rfl); (case hg => rfl); (case hr => first | (go_simp; done) | (go_simp; rfl)); (case hp => exact (Reps.one (show Kd.M (Kd.int .i64) _ _ _ 0 [.int .i64 0] from rfl) (Reps.none _ _))); intro v218 w12 ho13 hb hg_ hnew_; clear hg_ hnew_; (first | rw [← Ny217.out] at ho13 | (simp only [Int.reduceToNat] at ho13; rw [← Ny217.out] at ho13)); have n0_ := Aside0.mk (Kd.R_below (by (with_reducible repeat (first | apply Kd.R_alloc | apply Kd.R_drewN | apply Kd.R_drew)); exact HO215.out) hb); have n1_ := Aside0.mk (Kd.R_lower ho13 (below_size (by repeat (first | (with_reducible first | exact HB.out | apply below_alloc | apply pw_below_drewN | apply below_drew1 | refine below_set ?_ GE212.out) | exact HB.out)))); have n2_ := Aside0.mk (blk_below (g := gb212) (o := .cells #[.slice A0_0 l0_0.length c0_0] 29 (0, 0)) (by (with_reducible repeat (first | refine blk_drewN ?_ _ | refine blk_drew ?_ | refine blk_alloc ?_ _)); exact BK212.out) hb); have n3_ := Aside0.mk (below_step (by repeat (first | (with_reducible first | exact HB.out | apply below_alloc | apply pw_below_drewN | apply below_drew1 | refine below_set ?_ GE212.out) | exact HB.out)) hb); clear HO215; clear BK212; clear HB; have HO215 := n0_; have HO219 := n1_; have BK212 := n2_; have HB := n3_; clear n0_ n1_ n2_ n3_; clear hb ho13))
    go_loopg [4] k (fun kq v4 w' => ∃ (x3_1 : List Bool) (x4_1 : List Int), Aside0 (impl_Prog_reach.l0 kq x3_1 x4_1 l0_0 = some r) ∧ Aside0 (kq ≤ k) ∧ Aside0 (Kd.R Kd.bool 4 w' w.heap.size (fun _ => True) (.slice (some ⟨go5, 0, none⟩) y213.length co5) x3_1) ∧ Aside0 (Kd.R (Kd.int .i64) 3 w' w.heap.size (fun _ => True) v4 x4_1) ∧ Aside0 (w'.heap[gb212]? = some (.cells #[(.slice A0_0 l0_0.length c0_0)] 29 (0, 0))) ∧ Aside0 (Below w.heap.size w w'))
    case atStart => exact ⟨(y216), (y217), H', ⟨Nat.le_refl _⟩, ⟨by (with_reducible repeat (first | apply Kd.R_alloc | apply Kd.R_drewN | apply Kd.R_drew)); exact HO215.out⟩, ⟨by (with_reducible repeat (first | apply Kd.R_alloc | apply Kd.R_drewN | apply Kd.R_drew)); exact HO219.out⟩, ⟨by (with_reducible repeat (first | refine blk_drewN ?_ _ | refine blk_drew ?_ | refine blk_alloc ?_ _)); exact BK212.out⟩, ⟨by repeat (first | (with_reducible first | exact HB.out | apply below_alloc | apply pw_below_drewN | apply below_drew1 | refine below_set ?_ GE212.out) | exact HB.out)⟩⟩
    case round =>
     clear H'
     (try clear c2); (try clear c2b0); (try clear c2b1); (try clear c3); (try clear c3b0); (try clear c3b1); (try clear c4); (try clear c4b0); (try clear c4b1); (try clear p5); (try clear q5); (try clear qi5); (try clear hcz7_0); (try clear hfz7_0); (try clear hx5_0)
     obtain ⟨x3_1, x4_1, HA, HK1, HO_3, HO_4, BK212, HB⟩ := hrel
     have hl3_1 := (Kd.R_reads' HO_3.out).1
     rw [hl3_1] at HO_3
     (try simp only [hl3_1])
     (try simp only [hl3_1] at BK212)
     (try simp only [hl3_1] at HO_4)
     cases gk with
     | zero => exact absurd HA.out (by simp [impl_Prog_reach.l0])
     | succ k1 =>
      have H := HA.out
      clear HA
      simp only [impl_Prog_reach.l0] at H
      by_cases c14 : (x4_1.length : Int) > 0
      ·rw [if_pos c14] at H
       have c14b0 : decide (0 < (x4_1.length : Int)) = true := decide_eq_true c14
       have c14b1 : decide (0 < x4_1.length) = true := decide_eq_true (by omega)
       clear c14
       obtain ⟨ji15, hji15⟩ : ∃ j_ : Int, (wrap64 ((x4_1.length : Int) - 1)) = j_ := ⟨_, rfl⟩
       replace H : (if 0 ≤ (ji15) then (if (ji15) < (x4_1.length : Int) then (if (ji15) ≤ (x4_1.length : Int) then (if 0 ≤ (rd x4_1 (ji15)) then (if (rd x4_1 (ji15)) < (l0_0.length : Int) then (impl_Prog_reach.l1 k1 x3_1 (x4_1.take ((ji15) : Int).toNat) ((rd_T68 l0_0 (rd x4_1 (ji15))).f5) (((rd_T68 l0_0 (rd x4_1 (ji15))).f5).length : Int) 0 l0_0) else (none)) else (none)) else (none)) else (none)) else (none)) = some r := by first | (rw [hji15] at H; exact H) | (simp only [hji15] at H ⊢; exact H)
       have hji15w : (IntKind.i64.wrap ((x4_1.length : Int) - 1)) = ji15 := (i64_w _).trans hji15
       by_cases c16 : 0 ≤ (ji15)
       ·rw [if_pos c16] at H
        have c16b0 : decide (0 ≤ (ji15)) = true := decide_eq_true c16
        clear c16
        by_cases c17 : (ji15) < (x4_1.length : Int)
        ·rw [if_pos c17] at H
         have c17b0 : decide ((ji15) < (x4_1.length : Int)) = true := decide_eq_true c17
         clear c17
         by_cases c18 : (ji15) ≤ (x4_1.length : Int)
         ·rw [if_pos c18] at H
          have c18b0 := eq_true c18
          have c18b1 : decide ((ji15) ≤ (x4_1.length : Int)) = true := decide_eq_true c18
          clear c18
          obtain ⟨y221, hy221⟩ : ∃ y_ : List Int, y_ = (x4_1.take ((ji15) : Int).toNat) := ⟨_, rfl⟩
          replace H : (if 0 ≤ (rd x4_1 (ji15)) then (if (rd x4_1 (ji15)) < (l0_0.length : Int) then (impl_Prog_reach.l1 k1 x3_1 y221 ((rd_T68 l0_0 (rd x4_1 (ji15))).f5) (((rd_T68 l0_0 (rd x4_1 (ji15))).f5).length : Int) 0 l0_0) else (none)) else (none)) = some r := by first | (rw [hy221]; with_reducible exact H) | (have H2_ := (Option.bind_some _ _).symm.trans H; rw [hy221]; with_reducible exact H2_) | (have H2_ := (Option.bind_some _ _).symm.trans H; with_reducible exact H2_) | with_reducible exact H | (rw [hy221]; exact H) | exact H
          have Ny221 := Aside0.mk hy221
          clear hy221
          by_cases c19 : 0 ≤ (rd x4_1 (ji15))
          ·rw [if_pos c19] at H
           have c19b0 : decide (0 ≤ (rd x4_1 (ji15))) = true := decide_eq_true c19
           clear c19
           by_cases c20 : (rd x4_1 (ji15)) < (l0_0.length : Int)
           ·rw [if_pos c20] at H
            have c20b0 : decide ((rd x4_1 (ji15)) < (l0_0.length : Int)) = true := decide_eq_true c20
            clear c20
            have H' := Aside0.mk H
            clear H
            obtain ⟨Ao21, co21, eo21⟩ := Kd.R_slice HO_4.out
            subst eo21
            have p220 : 0 ≤ ((ji15) : Int) := of_decide_eq_true (by first | (with_reducible assumption) | assumption)
            have q220 : (ji15) < (x4_1.length : Int) := of_decide_eq_true (by first | (with_reducible assumption) | assumption)
            try (obtain ⟨Av_, cv_, ev_⟩ := Kd.R_slice HO_4.out; subst ev_)
            obtain ⟨ad220, e220, hx220_0⟩ := Kd.at_int (Kd.R_reads' HO_4.out).2.2 (ji15) p220 q220
            cases e220
            replace p220 := eq_true p220
            replace q220 := eq_true q220
            have q22 : ((ji15) : Int) ≤ ((x4_1.length : Int) : Int) := of_decide_eq_true (by first | (with_reducible assumption) | assumption)
            obtain ⟨i022, hi022, _, hsz22, _⟩ := info_parts info3
            have hcut22 := cut_to (P := Try.prog) 60 3 .i64 Try.underlying60 hi022 (some ad220) x4_1.length co21 (ji15) (of_decide_eq_true (by first | (with_reducible assumption) | assumption)) q22 (Kd.R_reads' HO_4.out).2.1
            have hr22 := Kd.R_take (m := ((ji15) : Int).toNat) HO_4.out (by omega)
            have hy22 : y221.length = ((ji15) : Int).toNat := (by rw [Ny221.out, List.length_take]; omega)
            rw [← Ny221.out] at hr22
            rw [← hy22] at hr22 hcut22
            clear hy22 hi022 hsz22 HO_4
            have HO223 := Aside0.mk hr22
            clear hr22
            replace q22 := eq_true q22
            have hcz23_0 : wr.cell? ⟨gb212, 0, none⟩ = some (.slice A0_0 l0_0.length c0_0) := (blk_cell BK212.out 0).trans rfl
            have hfz23_0 := blk_frozen BK212.out 0
            have p224 : 0 ≤ ((rd x4_1 (ji15)) : Int) := of_decide_eq_true (by first | (with_reducible assumption) | assumption)
            have q224 : (rd x4_1 (ji15)) < (l0_0.length : Int) := of_decide_eq_true (by first | (with_reducible assumption) | assumption)
            obtain ⟨ad224, A224_7, c224_7, e224, hx224_0, hx224_1, hx224_2, hx224_3, hx224_4, hx224_5, hx224_6, hx224_7, hl224_7, hi224_7⟩ := at_T68 HR0_0.out (rd x4_1 (ji15)) p224 q224
            cases e224
            replace hx224_0 := (HB.out.cell (World.block_lt_of_cell? w _ hx224_0)).trans hx224_0
            replace hx224_1 := (HB.out.cell (World.block_lt_of_cell? w _ hx224_1)).trans hx224_1
            replace hx224_2 := (HB.out.cell (World.block_lt_of_cell? w _ hx224_2)).trans hx224_2
            replace hx224_3 := (HB.out.cell (World.block_lt_of_cell? w _ hx224_3)).trans hx224_3
            replace hx224_4 := (HB.out.cell (World.block_lt_of_cell? w _ hx224_4)).trans hx224_4
            replace hx224_5 := (HB.out.cell (World.block_lt_of_cell? w _ hx224_5)).trans hx224_5
            replace hx224_6 := (HB.out.cell (World.block_lt_of_cell? w _ hx224_6)).trans hx224_6
            replace hx224_7 := (HB.out.cell (World.block_lt_of_cell? w _ hx224_7)).trans hx224_7
            have HR224_7 := Aside0.mk hi224_7
            have HC224_7 := Aside0.mk hl224_7
            clear hi224_7 hl224_7
            replace p224 := eq_true p224
            replace q224 := eq_true q224
            go_wp2
            go_loopg [4, 36] k1 (fun kq v4 v36 w' => ∃ (x3_2 : List Bool) (x4_2 : List Int) (x36_2 : Int), v36 = .int .i64 x36_2 ∧ Aside0 (impl_Prog_reach.l1 kq x3_2 x4_2 ((rd_T68 l0_0 (rd x4_1 (ji15))).f5) (((rd_T68 l0_0 (rd x4_1 (ji15))).f5).length : Int) x36_2 l0_0 = some r) ∧ Aside0 (kq ≤ k1) ∧ Aside0 (Kd.R Kd.bool 4 w' w.heap.size (fun _ => True) (.slice (some ⟨go5, 0, none⟩) x3_1.length co5) x3_2) ∧ Aside0 (Kd.R (Kd.int .i64) 3 w' w.heap.size (fun _ => True) v4 x4_2) ∧ Aside0 (w'.heap[gb212]? = some (.cells #[(.slice (some ad224) l0_0.length c0_0)] 29 (0, 0))) ∧ Aside0 (Below w.heap.size w w'))
            case atStart => exact ⟨(x3_1), (y221), (0), (by first | rfl | (simp; done) | (simp [*]; done)), H', ⟨Nat.le_refl _⟩, ⟨by (try simp only [hl3_1]); (with_reducible repeat (first | apply Kd.R_alloc | apply Kd.R_drewN | apply Kd.R_drew)); exact HO_3.out⟩, ⟨by (try simp only [hl3_1]); (with_reducible repeat (first | apply Kd.R_alloc | apply Kd.R_drewN | apply Kd.R_drew)); exact HO223.out⟩, ⟨by (try simp only [hl3_1]); (with_reducible repeat (first | refine blk_drewN ?_ _ | refine blk_drew ?_ | refine blk_alloc ?_ _)); exact BK212.out⟩, ⟨by repeat (first | (with_reducible first | exact HB.out | apply below_alloc | apply pw_below_drewN | apply below_drew1 | refine below_set ?_ GE212.out) | exact HB.out)⟩⟩
            case round =>
             clear H'
             (try clear c2); (try clear c2b0); (try clear c2b1); (try clear c3); (try clear c3b0); (try clear c3b1); (try clear c4); (try clear c4b0); (try clear c4b1); (try clear p5); (try clear q5); (try clear qi5); (try clear c14); (try clear c14b0); (try clear c14b1); (try clear c16); (try clear c16b0); (try clear c17); (try clear c17b0); (try clear c18); (try clear c18b0); (try clear c18b1); (try clear c19); (try clear c19b0); (try clear c20); (try clear c20b0); (try clear q22); (try clear hcz23_0); (try clear hcz7_0); (try clear hfz23_0); (try clear hfz7_0); (try clear hx220_0); (try clear hx224_0); (try clear hx224_1); (try clear hx224_2); (try clear hx224_3); (try clear hx224_4); (try clear hx224_5); (try clear hx224_6); (try clear hx224_7)
             (try clear hx5_0); (try clear p220); (try clear p224); (try clear q220); (try clear q224)
             obtain ⟨x3_2, x4_2, x36_2, rfl, HA, HK2, HO_3, HO_4, BK212, HB⟩ := hrel
             have hl3_2 := (Kd.R_reads' HO_3.out).1
             rw [hl3_2] at HO_3
             (try simp only [hl3_2])
             (try simp only [hl3_2] at BK212)
             (try simp only [hl3_2] at HO_4)
             cases gk with
             | zero => exact absurd HA.out (by simp [impl_Prog_reach.l1])
             | succ k2 =>
              have H := HA.out
              clear HA
              simp only [impl_Prog_reach.l1] at H
              by_cases c24 : x36_2 < (((rd_T68 l0_0 (rd x4_1 (ji15))).f5).length : Int)
              ·rw [if_pos c24] at H
               have c24b0 : decide (x36_2 < (((rd_T68 l0_0 (rd x4_1 (ji15))).f5).length : Int)) = true := decide_eq_true c24
               clear c24
               by_cases c25 : 0 ≤ x36_2
               ·rw [if_pos c25] at H
                have c25b0 : decide (0 ≤ x36_2) = true := decide_eq_true c25
                clear c25
                by_cases c26 : x36_2 < (((rd_T68 l0_0 (rd x4_1 (ji15))).f5).length : Int)
                ·rw [if_pos c26] at H
                 have c26b0 : decide (x36_2 < (((rd_T68 l0_0 (rd x4_1 (ji15))).f5).length : Int)) = true := decide_eq_true c26
                 clear c26
                 by_cases c27 : 0 ≤ (rd ((rd_T68 l0_0 (rd x4_1 (ji15))).f5) x36_2)
                 ·rw [if_pos c27] at H
                  have c27b0 : decide (0 ≤ (rd ((rd_T68 l0_0 (rd x4_1 (ji15))).f5) x36_2)) = true := decide_eq_true c27
                  clear c27
                  by_cases c28 : (rd ((rd_T68 l0_0 (rd x4_1 (ji15))).f5) x36_2) < (x3_2.length : Int)
                  ·rw [if_pos c28] at H
                   have c28b0 : decide ((rd ((rd_T68 l0_0 (rd x4_1 (ji15))).f5) x36_2) < (x3_2.length : Int)) = true := decide_eq_true c28
                   clear c28
                   obtain ⟨bq29, hbq29⟩ : ∃ b_ : Bool, b_ = (rdOf false x3_2 (rd ((rd_T68 l0_0 (rd x4_1 (ji15))).f5) x36_2)) := ⟨_, rfl⟩
                   replace H : (if (bq29 = true) then (impl_Prog_reach.l1 k2 x3_2 x4_2 ((rd_T68 l0_0 (rd x4_1 (ji15))).f5) (((rd_T68 l0_0 (rd x4_1 (ji15))).f5).length : Int) (wrap64 (x36_2 + 1)) l0_0) else (if x4_2.length < 17592186044416 then (impl_Prog_reach.l1 k2 (x3_2.set ((rd ((rd_T68 l0_0 (rd x4_1 (ji15))).f5) x36_2) : Int).toNat true) (x4_2 ++ [rd ((rd_T68 l0_0 (rd x4_1 (ji15))).f5) x36_2]) ((rd_T68 l0_0 (rd x4_1 (ji15))).f5) (((rd_T68 l0_0 (rd x4_1 (ji15))).f5).length : Int) (wrap64 (x36_2 + 1)) l0_0) else (none))) = some r := by rw [← hbq29] at H; exact H
                   have Nbq29 := Aside0.mk hbq29
                   clear hbq29
                   by_cases c30 : (bq29 = true)
                   ·subst c30
                    have H1 : (impl_Prog_reach.l1 k2 x3_2 x4_2 ((rd_T68 l0_0 (rd x4_1 (ji15))).f5) (((rd_T68 l0_0 (rd x4_1 (ji15))).f5).length : Int) (wrap64 (x36_2 + 1)) l0_0) = some r := by rw [if_pos rfl] at H; exact H
                    clear H
                    have H := H1
                    clear H1
                    have H' := Aside0.mk H
                    clear H
                    have p225 : 0 ≤ (x36_2 : Int) := of_decide_eq_true (by first | (with_reducible assumption) | assumption)
                    have q225 : x36_2 < (((rd_T68 l0_0 (rd x4_1 (ji15))).f5).length : Int) := of_decide_eq_true (by first | (with_reducible assumption) | assumption)
                    obtain ⟨ad225, e225, hx225_0⟩ := Kd.at_int HR224_7.out x36_2 p225 q225
                    cases e225
                    replace hx225_0 := (HB.out.cell (World.block_lt_of_cell? w _ hx225_0)).trans hx225_0
                    replace p225 := eq_true p225
                    replace q225 := eq_true q225
                    have p226 : 0 ≤ ((rd ((rd_T68 l0_0 (rd x4_1 (ji15))).f5) x36_2) : Int) := of_decide_eq_true (by first | (with_reducible assumption) | assumption)
                    have q226 : (rd ((rd_T68 l0_0 (rd x4_1 (ji15))).f5) x36_2) < (x3_2.length : Int) := of_decide_eq_true (by first | (with_reducible assumption) | assumption)
                    try (obtain ⟨Av_, cv_, ev_⟩ := Kd.R_slice HO_3.out; subst ev_)
                    obtain ⟨ad226, e226, hx226_0⟩ := Kd.at_bool (Kd.R_reads' HO_3.out).2.2 (rd ((rd_T68 l0_0 (rd x4_1 (ji15))).f5) x36_2) p226 q226
                    (try rw [← Nbq29.out] at hx226_0)
                    obtain rfl : (⟨go5, 0, none⟩ : Addr) = ad226 := (by injection e226)
                    (first | simp only [add_plain] at hx226_0 | simp only [add_at] at hx226_0 | simp only [Addr.add, Nat.zero_add] at hx226_0 | skip)
                    replace p226 := eq_true p226
                    replace q226 := eq_true q226
                    go_wp2
                    (try simp only [← hl3_2])
                    go_roundg k2
                    case measure => have := HK1.out; have := HK2.out; omega
                    case rel => exact ⟨(x3_2), (x4_2), (wrap64 (x36_2 + 1)), (by first | rfl | (simp; done) | (simp [*]; done)), H', ⟨by have := HK1.out; have := HK2.out; omega⟩, ⟨by (try simp only [hl3_1]); (try simp only [hl3_2]); (with_reducible repeat (first | apply Kd.R_alloc | apply Kd.R_drewN | apply Kd.R_drew)); exact HO_3.out⟩, ⟨by (try simp only [hl3_1]); (try simp only [hl3_2]); (with_reducible repeat (first | apply Kd.R_alloc | apply Kd.R_drewN | apply Kd.R_drew)); exact HO_4.out⟩, ⟨by (try simp only [hl3_1]); (try simp only [hl3_2]); (with_reducible repeat (first | refine blk_drewN ?_ _ | refine blk_drew ?_ | refine blk_alloc ?_ _)); exact BK212.out⟩, ⟨by repeat (first | (with_reducible first | exact HB.out | apply below_alloc | apply pw_below_drewN | apply below_drew1 | refine below_set ?_ GE212.out) | exact HB.out)⟩⟩
                   ·replace c30 := Bool.eq_false_iff.mpr c30
                    subst c30
                    have H1 : (if x4_2.length < 17592186044416 then (impl_Prog_reach.l1 k2 (x3_2.set ((rd ((rd_T68 l0_0 (rd x4_1 (ji15))).f5) x36_2) : Int).toNat true) (x4_2 ++ [rd ((rd_T68 l0_0 (rd x4_1 (ji15))).f5) x36_2]) ((rd_T68 l0_0 (rd x4_1 (ji15))).f5) (((rd_T68 l0_0 (rd x4_1 (ji15))).f5).length : Int) (wrap64 (x36_2 + 1)) l0_0) else (none)) = some r := by rw [if_neg (show ¬ (false = true) by decide)] at H; exact H
                    clear H
                    have H := H1
                    clear H1
                    obtain ⟨y227, hy227⟩ : ∃ y_ : List Bool, y_ = (x3_2.set ((rd ((rd_T68 l0_0 (rd x4_1 (ji15))).f5) x36_2) : Int).toNat true) := ⟨_, rfl⟩
                    replace H : (if x4_2.length < 17592186044416 then (impl_Prog_reach.l1 k2 y227 (x4_2 ++ [rd ((rd_T68 l0_0 (rd x4_1 (ji15))).f5) x36_2]) ((rd_T68 l0_0 (rd x4_1 (ji15))).f5) (((rd_T68 l0_0 (rd x4_1 (ji15))).f5).length : Int) (wrap64 (x36_2 + 1)) l0_0) else (none)) = some r := by first | (rw [hy227]; with_reducible exact H) | (have H2_ := (Option.bind_some _ _).symm.trans H; rw [hy227]; with_reducible exact H2_) | (have H2_ := (Option.bind_some _ _).symm.trans H; with_reducible exact H2_) | with_reducible exact H | (rw [hy227]; exact H) | exact H
                    have Ny227 := Aside0.mk hy227
                    clear hy227
                    by_cases c32 : x4_2.length < 17592186044416
                    ·rw [if_pos c32] at H
                     have LMc32 := Aside0.mk c32
                     clear c32
                     obtain ⟨y228, hy228⟩ : ∃ y_ : List Int, y_ = (x4_2 ++ [rd ((rd_T68 l0_0 (rd x4_1 (ji15))).f5) x36_2]) := ⟨_, rfl⟩
                     replace H : (impl_Prog_reach.l1 k2 y227 y228 ((rd_T68 l0_0 (rd x4_1 (ji15))).f5) (((rd_T68 l0_0 (rd x4_1 (ji15))).f5).length : Int) (wrap64 (x36_2 + 1)) l0_0) = some r := by first | (rw [hy228]; with_reducible exact H) | (have H2_ := (Option.bind_some _ _).symm.trans H; rw [hy228]; with_reducible exact H2_) | (have H2_ := (Option.bind_some _ _).symm.trans H; with_reducible exact H2_) | with_reducible exact H | (rw [hy228]; exact H) | exact H
                     have Ny228 := Aside0.mk hy228
                     clear hy228
                     have H' := Aside0.mk H
                     clear H
                     have p225 : 0 ≤ (x36_2 : Int) := of_decide_eq_true (by first | (with_reducible assumption) | assumption)
                     have q225 : x36_2 < (((rd_T68 l0_0 (rd x4_1 (ji15))).f5).length : Int) := of_decide_eq_true (by first | (with_reducible assumption) | assumption)
                     obtain ⟨ad225, e225, hx225_0⟩ := Kd.at_int HR224_7.out x36_2 p225 q225
                     cases e225
                     replace hx225_0 := (HB.out.cell (World.block_lt_of_cell? w _ hx225_0)).trans hx225_0
                     replace p225 := eq_true p225
                     replace q225 := eq_true q225
                     have p226 : 0 ≤ ((rd ((rd_T68 l0_0 (rd x4_1 (ji15))).f5) x36_2) : Int) := of_decide_eq_true (by first | (with_reducible assumption) | assumption)
                     have q226 : (rd ((rd_T68 l0_0 (rd x4_1 (ji15))).f5) x36_2) < (x3_2.length : Int) := of_decide_eq_true (by first | (with_reducible assumption) | assumption)
                     try (obtain ⟨Av_, cv_, ev_⟩ := Kd.R_slice HO_3.out; subst ev_)
                     obtain ⟨ad226, e226, hx226_0⟩ := Kd.at_bool (Kd.R_reads' HO_3.out).2.2 (rd ((rd_T68 l0_0 (rd x4_1 (ji15))).f5) x36_2) p226 q226
                     (try rw [← Nbq29.out] at hx226_0)
                     obtain rfl : (⟨go5, 0, none⟩ : Addr) = ad226 := (by injection e226)
                     (first | simp only [add_plain] at hx226_0 | simp only [add_at] at hx226_0 | simp only [Addr.add, Nat.zero_add] at hx226_0 | skip)
                     replace p226 := eq_true p226
                     replace q226 := eq_true q226
                     have p31 : 0 ≤ ((rd ((rd_T68 l0_0 (rd x4_1 (ji15))).f5) x36_2) : Int) := of_decide_eq_true (by first | (with_reducible assumption) | assumption)
                     have q31 : ((rd ((rd_T68 l0_0 (rd x4_1 (ji15))).f5) x36_2) : Int) < ((x3_2.length : Int) : Int) := of_decide_eq_true (by first | (with_reducible assumption) | assumption)
                     obtain ⟨hx31_0, hf31_0⟩ := Kd.R_celln false HO_3.out ((rd ((rd_T68 l0_0 (rd x4_1 (ji15))).f5) x36_2) : Int) p31 q31
                     replace p31 := eq_true p31
                     replace q31 := eq_true q31
                     have HP33 := Kd.R_putg HO_3.out ((rd ((rd_T68 l0_0 (rd x4_1 (ji15))).f5) x36_2) : Int) true
                     go_wp2_with (first | ((with_reducible refine gate_store (t := 4) (p := 47) rfl ?_); refine store_event (t := 4) (p := 47) (v := ?vo_w34) (w1 := (wr.setCell ⟨go5, ((rd ((rd_T68 l0_0 (rd x4_1 (ji15))).f5) x36_2) : Int).toNat, none⟩ (.bool true))) ?hg ?ho ?hn ?hr ?_; (case ho => rfl); (case hg => rfl); (case hn => rfl); (case hr => first | (go_simp; done) | (go_simp; rfl)); intro w34 hw; have hg : wr.grownBy w34 (some go5) := (by rw [hw]; exact HP33.2); have hp_ : Kd.R Kd.bool 4 w34 w.heap.size (fun _ => True) (.slice (some ⟨go5, 0, none⟩) x3_2.length co5) y227 := (by rw [hw, Ny227.out]; exact HP33.1); clear HP33; have n0_ := Aside0.mk (hp_); have n1_ := Aside0.mk (Kd.R_over' (v := (.slice (some ⟨go5, 0, none⟩) x3_2.length co5)) (by (with_reducible repeat (first | apply Kd.R_alloc | apply Kd.R_drewN | apply Kd.R_drew)); exact HO_4.out) (Kd.R_typed HO_3.out) (by decide) hg); have n2_ := Aside0.mk (blk_grown (g := gb212) (o := .cells #[.slice (some ad224) l0_0.length c0_0] 29 (0, 0)) (by (with_reducible repeat (first | refine blk_drewN ?_ _ | refine blk_drew ?_ | refine blk_alloc ?_ _)); exact BK212.out) hg (Kd.R_ne HO_3.out BK212.out (by decide))); have n3_ := Aside0.mk ((by rw [hw]; exact below_set (HB.out) GB5.out : Below w.heap.size w w34)); clear HO_3; clear HO_4; clear BK212; clear HB; have HO_3 := n0_; have HO_4 := n1_; have BK212 := n2_; have HB := n3_; clear n0_ n1_ n2_ n3_; clear hg hw hp_) | ((with_reducible refine gate_builtin (b := .append) (xs := #[.tmp 48, .tmp 50]) rfl ?_); at_builtin; refine Kd.R_append (Kd.int .i64) (w0 := w) w.heap.size rfl (.tmp 48) (.tmp 50) 60 3 (.int .i64 0) 8 rfl Try.underlying60 info3 rfl (by decide) (by omega) u4 x4_2 (rd ((rd_T68 l0_0 (rd x4_1 (ji15))).f5) x36_2) [.int .i64 (rd ((rd_T68 l0_0 (rd x4_1 (ji15))).f5) x36_2)] (fun _ => True) (fun _ => False) rfl rfl ?aP (fun _ hk => hk.elim) ?aF ?aO ?aB ?aS ?aL ?_; (case aP => exact rfl); (case aB => exact (by repeat (first | (with_reducible first | exact HB.out | apply below_alloc | apply pw_below_drewN | apply below_drew1 | refine below_set ?_ GE212.out) | exact HB.out))); (case aF => exact (fun _ _ => trivial)); (case aO => exact (by (with_reducible repeat (first | apply Kd.R_alloc | apply Kd.R_drewN | apply Kd.R_drew)); exact HO_4.out)); (case aS => exact (below_size (by repeat (first | (with_reducible first | exact HB.out | apply below_alloc | apply pw_below_drewN | apply below_drew1 | refine below_set ?_ GE212.out) | exact HB.out)))); (case aL => have := LMc32.out; omega); intro v229 w35 ho hb hg hat; rw [← Ny228.out] at ho; have n0_ := Aside0.mk (Kd.R_over' (by (with_reducible repeat (first | apply Kd.R_alloc | apply Kd.R_drewN | apply Kd.R_drew)); exact HO_3.out) (Kd.R_typed (by (with_reducible repeat (first | apply Kd.R_alloc | apply Kd.R_drewN | apply Kd.R_drew)); exact HO_4.out)) (by decide) hg); have n1_ := Aside0.mk (blk_grown (g := gb212) (o := .cells #[.slice (some ad224) l0_0.length c0_0] 29 (0, 0)) (by (with_reducible repeat (first | refine blk_drewN ?_ _ | refine blk_drew ?_ | refine blk_alloc ?_ _)); exact BK212.out) hg (Kd.R_ne HO_4.out BK212.out (by decide))); have n2_ := Aside0.mk (hb); have n3_ := Aside0.mk (ho); clear HO_3; clear BK212; clear HB; clear HO_4; have HO_3 := n0_; have BK212 := n1_; have HB := n2_; have HO230 := n3_; clear n0_ n1_ n2_ n3_; clear ho hb hg hat))
                     (try simp only [← hl3_2])
                     go_roundg k2
                     case measure => have := HK1.out; have := HK2.out; omega
                     case rel => exact ⟨(y227), (y228), (wrap64 (x36_2 + 1)), (by first | rfl | (simp; done) | (simp [*]; done)), H', ⟨by have := HK1.out; have := HK2.out; omega⟩, ⟨by (try simp only [hl3_1]); (try simp only [hl3_2]); (with_reducible repeat (first | apply Kd.R_alloc | apply Kd.R_drewN | apply Kd.R_drew)); exact HO_3.out⟩, ⟨by (try simp only [hl3_1]); (try simp only [hl3_2]); (with_reducible repeat (first | apply Kd.R_alloc | apply Kd.R_drewN | apply Kd.R_drew)); exact HO230.out⟩, ⟨by (try simp only [hl3_1]); (try simp only [hl3_2]); (with_reducible repeat (first | refine blk_drewN ?_ _ | refine blk_drew ?_ | refine blk_alloc ?_ _)); exact BK212.out⟩, ⟨by repeat (first | (with_reducible first | exact HB.out | apply below_alloc | apply pw_below_drewN | apply below_drew1 | refine below_set ?_ GE212.out) | exact HB.out)⟩⟩
                    ·rw [if_neg c32] at H
                     exact absurd H (by simp)
                  ·rw [if_neg c28] at H
                   exact absurd H (by simp)
                 ·rw [if_neg c27] at H
                  exact absurd H (by simp)
                ·rw [if_neg c26] at H
                 exact absurd H (by simp)
               ·rw [if_neg c25] at H
                exact absurd H (by simp)
              ·rw [if_neg c24] at H
               have c24b0 : decide (x36_2 < (((rd_T68 l0_0 (rd x4_1 (ji15))).f5).length : Int)) = false := decide_eq_false c24
               clear c24
               have H' := Aside0.mk H
               clear H
               go_wp2
               (try simp only [← hl3_1, ← hl3_2])
               go_roundg k2
               case measure => have := HK1.out; have := HK2.out; omega
               case rel => exact ⟨(x3_2), (x4_2), H', ⟨by have := HK1.out; have := HK2.out; omega⟩, ⟨by (try simp only [hl3_1]); (try simp only [hl3_2]); (with_reducible repeat (first | apply Kd.R_alloc | apply Kd.R_drewN | apply Kd.R_drew)); exact HO_3.out⟩, ⟨by (try simp only [hl3_1]); (try simp only [hl3_2]); (with_reducible repeat (first | apply Kd.R_alloc | apply Kd.R_drewN | apply Kd.R_drew)); exact HO_4.out⟩, ⟨by (try simp only [hl3_1]); (try simp only [hl3_2]); (with_reducible repeat (first | refine blk_drewN ?_ _ | refine blk_drew ?_ | refine blk_alloc ?_ _)); exact BK212.out⟩, ⟨by repeat (first | (with_reducible first | exact HB.out | apply below_alloc | apply pw_below_drewN | apply below_drew1 | refine below_set ?_ GE212.out) | exact HB.out)⟩⟩
           ·rw [if_neg c20] at H
            exact absurd H (by simp)
          ·rw [if_neg c19] at H
           exact absurd H (by simp)
         ·rw [if_neg c18] at H
          exact absurd H (by simp)
        ·rw [if_neg c17] at H
         exact absurd H (by simp)
       ·rw [if_neg c16] at H
        exact absurd H (by simp)
      ·rw [if_neg c14] at H
       have c14b0 : decide (0 < (x4_1.length : Int)) = false := decide_eq_false c14
       have c14b1 : decide (0 < x4_1.length) = false := decide_eq_false (by omega)
       clear c14
       obtain rfl := Option.some.inj H
       obtain ⟨Ao36, co36, eo36⟩ := Kd.R_slice HO_4.out
       subst eo36
       go_wp2
       go_ret
       exact ⟨_, by first | rfl | (simp [errW_none, errW_some] <;> rfl) | (simp [*, errW_none, errW_some] <;> rfl), by (with_reducible repeat (first | apply Kd.R_alloc | apply Kd.R_drewN | apply Kd.R_drew)); exact HO_3.out, by repeat (first | (with_reducible first | exact HB.out | apply below_alloc | apply pw_below_drewN | apply below_drew1 | refine below_set ?_ GE212.out) | exact HB.out)⟩
   ·rw [if_neg c4] at H
    exact absurd H (by simp)
  ·rw [if_neg c3] at H
   exact absurd H (by simp)
 ·rw [if_neg c2] at H
  exact absurd H (by simp)

end Go.Proofs.Ytkehjekbglajhaa.F
