-- printed by wip/myprint.py, a program that runs the kit's print.py patched in memory; hand-made contracts stand where that program has none. Not trusted: Lean checks it.
import Derived.Test.YtkehjekbglajhaaF0
import Derived.Test.YtkehjekbglajhaaF2
import Derived.Test.YtkehjekbglajhaaF4
import Derived.Test.YtkehjekbglajhaaF5
import Derived.Test.YtkehjekbglajhaaF15
namespace Go.Proofs.Ytkehjekbglajhaa.F
open Go.RowKit Go.Proofs.YtkehjekbglajhaaW.PrintWords Go.Proofs.YtkehjekbglajhaaW.PrintLast
set_option linter.unusedVariables false
set_option linter.unusedSimpArgs false

attribute [local go_sem high] eqA45
/-! ### spec_l11Has: function 78 -/
def spec_l11Has.l0 : Nat → List (S45) → Int → Int → Int → Int → Int → Int → Option (Bool)
 | 0, _, _, _, _, _, _, _ => none
 | k + 1, x0, x5, x378000, x378001, x378002, x378003, x378004 => if x5 < (x0.length : Int) then (if 0 ≤ x5 then (if (((rd_T45 x0 x5).f0) == x378000 && ((((rd_T45 x0 x5).f1.f0) == x378001 && (((rd_T45 x0 x5).f1.f1) == x378002)) && ((((rd_T45 x0 x5).f2.f0) == x378003 && (((rd_T45 x0 x5).f2.f1) == x378004))))) = true then (some true) else (spec_l11Has.l0 k x0 (wrap64 (x5 + 1)) x378000 x378001 x378002 x378003 x378004)) else (none)) else (some false)
def spec_l11Has.f (k : Nat) (l0 : List (S45)) (a1_0 : Int) (a1_1 : Int) (a1_2 : Int) (a1_3 : Int) (a1_4 : Int) : Option (Bool) := spec_l11Has.l0 k l0 0 a1_0 a1_1 a1_2 a1_3 a1_4
theorem spec_l11Has.mono_l : ∀ k, (∀ y0 y1 y2 y3 y4 y5 y6, LeO (spec_l11Has.l0 k y0 y1 y2 y3 y4 y5 y6) (spec_l11Has.l0 (k + 1) y0 y1 y2 y3 y4 y5 y6))
 | 0 => fun _ _ _ _ _ _ _ r h => by simp [spec_l11Has.l0] at h
 | k + 1 => by
  have ih0 := spec_l11Has.mono_l k
  ·intro y0 y1 y2 y3 y4 y5 y6
   unfold spec_l11Has.l0
   repeat' first
   | (with_reducible exact ih0 _ _ _ _ _ _ _)
   | (with_reducible exact LeO.refl _)
   | (with_reducible exact LeO.none _)
   | (with_reducible refine LeO.ite ?_ ?_)
   | (with_reducible refine LeO.bind ?_ (fun _ => ?_))
   | exact ih0 _ _ _ _ _ _ _
   | exact LeO.none _
   | refine LeO.ite ?_ ?_
   | refine LeO.bind ?_ (fun _ => ?_)
theorem spec_l11Has.mono : ∀ a0 a1 a2 a3 a4 a5 k, LeO (spec_l11Has.f k a0 a1 a2 a3 a4 a5) (spec_l11Has.f (k + 1) a0 a1 a2 a3 a4 a5) := by
 intro a0 a1 a2 a3 a4 a5 k
 have ih0 := spec_l11Has.mono_l k
 unfold spec_l11Has.f
 repeat' first
   | (with_reducible exact ih0 _ _ _ _ _ _ _)
   | (with_reducible exact LeO.refl _)
   | (with_reducible exact LeO.none _)
   | (with_reducible refine LeO.ite ?_ ?_)
   | (with_reducible refine LeO.bind ?_ (fun _ => ?_))
   | exact ih0 _ _ _ _ _ _ _
   | exact LeO.none _
   | refine LeO.ite ?_ ?_
   | refine LeO.bind ?_ (fun _ => ?_)
set_option maxHeartbeats 8000000 in
set_option maxRecDepth 100000 in
theorem spec_l11Has.calls (k : Nat) (A0 : Option Addr) (c0 : Nat) (l0 : List (S45)) (a1_0 : Int) (a1_1 : Int) (a1_2 : Int) (a1_3 : Int) (a1_4 : Int) (r : Bool) (w : World) (hr0 : Kd.C k45 w A0 l0.length l0) (hc0 : l0.length ≤ c0) (h : spec_l11Has.f k l0 a1_0 a1_1 a1_2 a1_3 a1_4 = some r) :
  Calls Try.prog 78 #[.slice A0 l0.length c0, .agg #[.int .i64 a1_0, .int .i64 a1_1, .int .i64 a1_2, .int .i64 a1_3, .int .i64 a1_4]] w fun e w' => e = .returned (.bool r) ∧ Below w.heap.size w w' := by
 have hu45 := Try.underlying45
 have HR0 := Aside0.mk hr0
 have HC0 := Aside0.mk hc0
 clear hr0 hc0
 have HB := Aside0.mk (Below.refl w.heap.size w)
 have H : (spec_l11Has.l0 k l0 0 a1_0 a1_1 a1_2 a1_3 a1_4) = some r := h
 clear h
 have H' := Aside0.mk H
 clear H
 go_enter Try.func78, Try.ntmps78
 go_wp2_with (first | ((with_reducible refine gate_dst (N := 3) rfl ?_); refine box_event ?hg (N := 3) ?hd (cs := #[.int .i64 a1_0, .int .i64 a1_1, .int .i64 a1_2, .int .i64 a1_3, .int .i64 a1_4]) (t := 45) ?hr ?_; (case hd => rfl); (case hg => rfl); (case hr => first | (go_simp; done) | (go_simp; rfl)); intro gb377 hg w3 hbox hb; have n_ := boxed (bel HB.out) hb hbox hg; clear HB hb hbox hg; obtain ⟨HB, BK377, GW377, GE377⟩ := n_))
 repeat (go_quiet (first | ((with_reducible refine gate_dst (N := 3) rfl ?_); refine box_event ?hg (N := 3) ?hd (cs := #[.int .i64 a1_0, .int .i64 a1_1, .int .i64 a1_2, .int .i64 a1_3, .int .i64 a1_4]) (t := 45) ?hr ?_; (case hd => rfl); (case hg => rfl); (case hr => first | (go_simp; done) | (go_simp; rfl)); intro gb377 hg w3 hbox hb; have n_ := boxed (bel HB.out) hb hbox hg; clear HB hb hbox hg; obtain ⟨HB, BK377, GW377, GE377⟩ := n_)); try go_wp2_with (first | ((with_reducible refine gate_dst (N := 3) rfl ?_); refine box_event ?hg (N := 3) ?hd (cs := #[.int .i64 a1_0, .int .i64 a1_1, .int .i64 a1_2, .int .i64 a1_3, .int .i64 a1_4]) (t := 45) ?hr ?_; (case hd => rfl); (case hg => rfl); (case hr => first | (go_simp; done) | (go_simp; rfl)); intro gb377 hg w3 hbox hb; have n_ := boxed (bel HB.out) hb hbox hg; clear HB hb hbox hg; obtain ⟨HB, BK377, GW377, GE377⟩ := n_)))
 go_loopg [5] k (fun kq v5 w' => ∃ (x5_1 : Int), v5 = .int .i64 x5_1 ∧ Aside0 (spec_l11Has.l0 kq l0 x5_1 a1_0 a1_1 a1_2 a1_3 a1_4 = some r) ∧ Aside0 (kq ≤ k) ∧ Aside0 (w'.heap[gb377]? = some (.cells #[.int .i64 a1_0, .int .i64 a1_1, .int .i64 a1_2, .int .i64 a1_3, .int .i64 a1_4] 45 (0, 0))) ∧ Aside0 (Below w.heap.size w w'))
 case atStart => exact ⟨(0), (by first | rfl | (simp; done) | (simp [*]; done)), H', ⟨Nat.le_refl _⟩, ⟨by (with_reducible repeat (first | refine blk_drewN ?_ _ | refine blk_drew ?_ | refine blk_alloc ?_ _)); exact BK377.out⟩, ⟨by repeat (first | (with_reducible first | exact HB.out | apply below_alloc | apply pw_below_drewN | apply below_drew1 | refine below_set ?_ GE377.out) | exact HB.out)⟩⟩
 case round =>
  clear H'
  try clear p2
  obtain ⟨x5_1, rfl, HA, HK1, BK377, HB⟩ := hrel
  cases gk with
  | zero => exact absurd HA.out (by simp [spec_l11Has.l0])
  | succ k1 =>
   have H := HA.out
   clear HA
   simp only [spec_l11Has.l0] at H
   by_cases c4 : x5_1 < (l0.length : Int)
   ·rw [if_pos c4] at H
    have c4b0 : decide (x5_1 < (l0.length : Int)) = true := decide_eq_true c4
    clear c4
    by_cases c5 : 0 ≤ x5_1
    ·rw [if_pos c5] at H
     have c5b0 : decide (0 ≤ x5_1) = true := decide_eq_true c5
     clear c5
     by_cases c6 : (((rd_T45 l0 x5_1).f0) == a1_0 && ((((rd_T45 l0 x5_1).f1.f0) == a1_1 && (((rd_T45 l0 x5_1).f1.f1) == a1_2)) && ((((rd_T45 l0 x5_1).f2.f0) == a1_3 && (((rd_T45 l0 x5_1).f2.f1) == a1_4))))) = true
     ·rw [if_pos c6] at H
      have c6b0 : (((rd_T45 l0 x5_1).f0) == a1_0 && ((((rd_T45 l0 x5_1).f1.f0) == a1_1 && (((rd_T45 l0 x5_1).f1.f1) == a1_2)) && ((((rd_T45 l0 x5_1).f2.f0) == a1_3 && (((rd_T45 l0 x5_1).f2.f1) == a1_4))))) = true := c6
      (try (have c6b1 : decide (((rd_T45 l0 x5_1).f0) = a1_0 && ((((rd_T45 l0 x5_1).f1.f0) == a1_1 && (((rd_T45 l0 x5_1).f1.f1) == a1_2)) && ((((rd_T45 l0 x5_1).f2.f0) == a1_3 && (((rd_T45 l0 x5_1).f2.f1) == a1_4))))) = true := by simpa using c6))
      (try (have c6b2 : (((rd_T45 l0 x5_1).f0) == a1_0 && ((((rd_T45 l0 x5_1).f1.f0) == a1_1 && (((rd_T45 l0 x5_1).f1.f1) == a1_2)) && ((((rd_T45 l0 x5_1).f2.f0) == a1_3 && (((rd_T45 l0 x5_1).f2.f1) == a1_4))))) = true := by simpa using c6))
      clear c6
      obtain rfl := Option.some.inj H
      have p378 : 0 ≤ (x5_1 : Int) := of_decide_eq_true (by first | (with_reducible assumption) | assumption)
      have q378 : x5_1 < (l0.length : Int) := of_decide_eq_true (by first | (with_reducible assumption) | assumption)
      obtain ⟨ad378, e378, hx378_0, hx378_1, hx378_2, hx378_3, hx378_4⟩ := at_T45 HR0.out x5_1 p378 q378
      cases e378
      replace hx378_0 := (HB.out.cell (World.block_lt_of_cell? w _ hx378_0)).trans hx378_0
      replace hx378_1 := (HB.out.cell (World.block_lt_of_cell? w _ hx378_1)).trans hx378_1
      replace hx378_2 := (HB.out.cell (World.block_lt_of_cell? w _ hx378_2)).trans hx378_2
      replace hx378_3 := (HB.out.cell (World.block_lt_of_cell? w _ hx378_3)).trans hx378_3
      replace hx378_4 := (HB.out.cell (World.block_lt_of_cell? w _ hx378_4)).trans hx378_4
      replace p378 := eq_true p378
      replace q378 := eq_true q378
      have hcz7_0 : wr.cell? ⟨gb377, 0, none⟩ = some (.int .i64 a1_0) := (blk_cell BK377.out 0).trans rfl
      have hcz7_1 : wr.cell? ⟨gb377, 1, none⟩ = some (.int .i64 a1_1) := (blk_cell BK377.out 1).trans rfl
      have hcz7_2 : wr.cell? ⟨gb377, 2, none⟩ = some (.int .i64 a1_2) := (blk_cell BK377.out 2).trans rfl
      have hcz7_3 : wr.cell? ⟨gb377, 3, none⟩ = some (.int .i64 a1_3) := (blk_cell BK377.out 3).trans rfl
      have hcz7_4 : wr.cell? ⟨gb377, 4, none⟩ = some (.int .i64 a1_4) := (blk_cell BK377.out 4).trans rfl
      have hfz7_0 := blk_frozen BK377.out 0
      have hfz7_1 := blk_frozen BK377.out 1
      have hfz7_2 := blk_frozen BK377.out 2
      have hfz7_3 := blk_frozen BK377.out 3
      have hfz7_4 := blk_frozen BK377.out 4
      go_wp2
      repeat (go_quiet (fail); try go_wp2)
      go_ret
      exact ⟨by first | rfl | (simp [errW_none, errW_some] <;> rfl) | (simp [*, errW_none, errW_some] <;> rfl), by repeat (first | (with_reducible first | exact HB.out | apply below_alloc | apply pw_below_drewN | apply below_drew1 | refine below_set ?_ GE377.out) | exact HB.out)⟩
     ·rw [if_neg c6] at H
      have c6b0 : (((rd_T45 l0 x5_1).f0) == a1_0 && ((((rd_T45 l0 x5_1).f1.f0) == a1_1 && (((rd_T45 l0 x5_1).f1.f1) == a1_2)) && ((((rd_T45 l0 x5_1).f2.f0) == a1_3 && (((rd_T45 l0 x5_1).f2.f1) == a1_4))))) = false := by simpa using c6
      (try (have c6b1 : decide (((rd_T45 l0 x5_1).f0) = a1_0 && ((((rd_T45 l0 x5_1).f1.f0) == a1_1 && (((rd_T45 l0 x5_1).f1.f1) == a1_2)) && ((((rd_T45 l0 x5_1).f2.f0) == a1_3 && (((rd_T45 l0 x5_1).f2.f1) == a1_4))))) = false := by simpa using c6))
      (try (have c6b2 : (((rd_T45 l0 x5_1).f0) == a1_0 && ((((rd_T45 l0 x5_1).f1.f0) == a1_1 && (((rd_T45 l0 x5_1).f1.f1) == a1_2)) && ((((rd_T45 l0 x5_1).f2.f0) == a1_3 && (((rd_T45 l0 x5_1).f2.f1) == a1_4))))) = false := by simpa using c6))
      (try (have c6b3 : ¬ (((rd_T45 l0 x5_1).f0) = a1_0 && ((((rd_T45 l0 x5_1).f1.f0) == a1_1 && (((rd_T45 l0 x5_1).f1.f1) == a1_2)) && ((((rd_T45 l0 x5_1).f2.f0) == a1_3 && (((rd_T45 l0 x5_1).f2.f1) == a1_4))))) := by simpa using c6))
      clear c6
      have H' := Aside0.mk H
      clear H
      have p378 : 0 ≤ (x5_1 : Int) := of_decide_eq_true (by first | (with_reducible assumption) | assumption)
      have q378 : x5_1 < (l0.length : Int) := of_decide_eq_true (by first | (with_reducible assumption) | assumption)
      obtain ⟨ad378, e378, hx378_0, hx378_1, hx378_2, hx378_3, hx378_4⟩ := at_T45 HR0.out x5_1 p378 q378
      cases e378
      replace hx378_0 := (HB.out.cell (World.block_lt_of_cell? w _ hx378_0)).trans hx378_0
      replace hx378_1 := (HB.out.cell (World.block_lt_of_cell? w _ hx378_1)).trans hx378_1
      replace hx378_2 := (HB.out.cell (World.block_lt_of_cell? w _ hx378_2)).trans hx378_2
      replace hx378_3 := (HB.out.cell (World.block_lt_of_cell? w _ hx378_3)).trans hx378_3
      replace hx378_4 := (HB.out.cell (World.block_lt_of_cell? w _ hx378_4)).trans hx378_4
      replace p378 := eq_true p378
      replace q378 := eq_true q378
      have hcz8_0 : wr.cell? ⟨gb377, 0, none⟩ = some (.int .i64 a1_0) := (blk_cell BK377.out 0).trans rfl
      have hcz8_1 : wr.cell? ⟨gb377, 1, none⟩ = some (.int .i64 a1_1) := (blk_cell BK377.out 1).trans rfl
      have hcz8_2 : wr.cell? ⟨gb377, 2, none⟩ = some (.int .i64 a1_2) := (blk_cell BK377.out 2).trans rfl
      have hcz8_3 : wr.cell? ⟨gb377, 3, none⟩ = some (.int .i64 a1_3) := (blk_cell BK377.out 3).trans rfl
      have hcz8_4 : wr.cell? ⟨gb377, 4, none⟩ = some (.int .i64 a1_4) := (blk_cell BK377.out 4).trans rfl
      have hfz8_0 := blk_frozen BK377.out 0
      have hfz8_1 := blk_frozen BK377.out 1
      have hfz8_2 := blk_frozen BK377.out 2
      have hfz8_3 := blk_frozen BK377.out 3
      have hfz8_4 := blk_frozen BK377.out 4
      go_wp2
      repeat (go_quiet (fail); try go_wp2)
      go_roundg k1
      case measure => have := HK1.out; omega
      case rel => exact ⟨(wrap64 (x5_1 + 1)), (by first | rfl | (simp; done) | (simp [*]; done)), H', ⟨by have := HK1.out; omega⟩, ⟨by (with_reducible repeat (first | refine blk_drewN ?_ _ | refine blk_drew ?_ | refine blk_alloc ?_ _)); exact BK377.out⟩, ⟨by repeat (first | (with_reducible first | exact HB.out | apply below_alloc | apply pw_below_drewN | apply below_drew1 | refine below_set ?_ GE377.out) | exact HB.out)⟩⟩
    ·rw [if_neg c5] at H
     exact absurd H (by simp)
   ·rw [if_neg c4] at H
    have c4b0 : decide (x5_1 < (l0.length : Int)) = false := decide_eq_false c4
    clear c4
    obtain rfl := Option.some.inj H
    go_wp2
    repeat (go_quiet (fail); try go_wp2)
    go_ret
    exact ⟨by first | rfl | (simp [errW_none, errW_some] <;> rfl) | (simp [*, errW_none, errW_some] <;> rfl), by repeat (first | (with_reducible first | exact HB.out | apply below_alloc | apply pw_below_drewN | apply below_drew1 | refine below_set ?_ GE377.out) | exact HB.out)⟩

/-! ### spec_ExprList: function 31 -/
def spec_ExprList.l0 : Nat → List (S45) → Int → List (S68) → Option ((List (S45)))
 | 0, _, _, _ => none
 | k + 1, x3, x4, x380000 => if x4 < (x380000.length : Int) then (if 0 ≤ x4 then (if ((rd_T68 x380000 x4).f0) = 1 then ((spec_l11Of.f ((rd_T68 x380000 x4).f0) ((rd_T68 x380000 x4).f1) ((rd_T68 x380000 x4).f2) ((rd_T68 x380000 x4).f3.f0) ((rd_T68 x380000 x4).f3.f1) ((rd_T68 x380000 x4).f4.f0) ((rd_T68 x380000 x4).f4.f1) ((rd_T68 x380000 x4).f5)).bind fun bt386 => ((spec_l11Has.f k x3 bt386.1 bt386.2.1 bt386.2.2.1 bt386.2.2.2.1 bt386.2.2.2.2).bind fun t391 => (if t391 = true then (spec_ExprList.l0 k x3 (wrap64 (x4 + 1)) x380000) else ((spec_l11Of.f ((rd_T68 x380000 x4).f0) ((rd_T68 x380000 x4).f1) ((rd_T68 x380000 x4).f2) ((rd_T68 x380000 x4).f3.f0) ((rd_T68 x380000 x4).f3.f1) ((rd_T68 x380000 x4).f4.f0) ((rd_T68 x380000 x4).f4.f1) ((rd_T68 x380000 x4).f5)).bind fun bt393 => (if x3.length < 3518437208883 then (spec_ExprList.l0 k (x3 ++ [(⟨bt393.1, (⟨bt393.2.1, bt393.2.2.1⟩ : S43), (⟨bt393.2.2.2.1, bt393.2.2.2.2⟩ : S43)⟩ : S45)]) (wrap64 (x4 + 1)) x380000) else (none)))))) else (spec_ExprList.l0 k x3 (wrap64 (x4 + 1)) x380000)) else (none)) else (some x3)
def spec_ExprList.f (k : Nat) (l0_0 : List (S68)) : Option ((List (S45))) := (some (([] : List (S45)) : List (S45))).bind fun y380 => ((spec_ProgOk.f k l0_0).bind fun t383 => (if t383 = true then (spec_ExprList.l0 k y380 0 l0_0) else (some y380)))
theorem spec_ExprList.mono_l : ∀ k, (∀ y0 y1 y2, LeO (spec_ExprList.l0 k y0 y1 y2) (spec_ExprList.l0 (k + 1) y0 y1 y2))
 | 0 => fun _ _ _ r h => by simp [spec_ExprList.l0] at h
 | k + 1 => by
  have ih0 := spec_ExprList.mono_l k
  ·intro y0 y1 y2
   unfold spec_ExprList.l0
   repeat' first
   | (with_reducible exact ih0 _ _ _)
   | (with_reducible exact spec_ProgOk.mono _ _)
   | (with_reducible exact spec_l11Has.mono _ _ _ _ _ _ _)
   | (with_reducible exact LeO.refl _)
   | (with_reducible exact LeO.none _)
   | (with_reducible refine LeO.ite ?_ ?_)
   | (with_reducible refine LeO.bind ?_ (fun _ => ?_))
   | exact ih0 _ _ _
   | exact spec_ProgOk.mono _ _
   | exact spec_l11Has.mono _ _ _ _ _ _ _
   | exact LeO.none _
   | refine LeO.ite ?_ ?_
   | refine LeO.bind ?_ (fun _ => ?_)
theorem spec_ExprList.mono : ∀ a0 k, LeO (spec_ExprList.f k a0) (spec_ExprList.f (k + 1) a0) := by
 intro a0 k
 have ih0 := spec_ExprList.mono_l k
 unfold spec_ExprList.f
 repeat' first
   | (with_reducible exact ih0 _ _ _)
   | (with_reducible exact spec_ProgOk.mono _ _)
   | (with_reducible exact spec_l11Has.mono _ _ _ _ _ _ _)
   | (with_reducible exact LeO.refl _)
   | (with_reducible exact LeO.none _)
   | (with_reducible refine LeO.ite ?_ ?_)
   | (with_reducible refine LeO.bind ?_ (fun _ => ?_))
   | exact ih0 _ _ _
   | exact spec_ProgOk.mono _ _
   | exact spec_l11Has.mono _ _ _ _ _ _ _
   | exact LeO.none _
   | refine LeO.ite ?_ ?_
   | refine LeO.bind ?_ (fun _ => ?_)
set_option maxHeartbeats 8000000 in
set_option maxRecDepth 100000 in
theorem spec_ExprList.calls (k : Nat) (A0_0 : Option Addr) (c0_0 : Nat) (l0_0 : List (S68)) (r : List (S45)) (w : World) (hr0_0 : Kd.C k68 w A0_0 l0_0.length l0_0) (hc0_0 : l0_0.length ≤ c0_0) (h : spec_ExprList.f k l0_0 = some r) :
  Calls Try.prog 31 #[.agg #[.slice A0_0 l0_0.length c0_0]] w fun e w' => ∃ v0_ : Value, e = .returned (v0_) ∧ Kd.R k45 45 w' w.heap.size (fun _ => True) v0_ r ∧ Below w.heap.size w w' := by
 have hu29 := Try.underlying29
 have hu68 := Try.underlying68
 have HR0_0 := Aside0.mk hr0_0
 have HC0_0 := Aside0.mk hc0_0
 clear hr0_0 hc0_0
 have HB := Aside0.mk (Below.refl w.heap.size w)
 have H : ((some (([] : List (S45)) : List (S45))).bind fun y380 => ((spec_ProgOk.f k l0_0).bind fun t383 => (if t383 = true then (spec_ExprList.l0 k y380 0 l0_0) else (some y380)))) = some r := h
 clear h
 obtain ⟨y380, hy380⟩ : ∃ y_ : List (S45), y_ = (([] : List (S45))) := ⟨_, rfl⟩
 replace H : ((spec_ProgOk.f k l0_0).bind fun t383 => (if t383 = true then (spec_ExprList.l0 k y380 0 l0_0) else (some y380))) = some r := by first | (rw [hy380]; with_reducible exact H) | (have H2_ := (Option.bind_some _ _).symm.trans H; rw [hy380]; with_reducible exact H2_) | (have H2_ := (Option.bind_some _ _).symm.trans H; with_reducible exact H2_) | with_reducible exact H | (rw [hy380]; exact H) | exact H
 have Ny380 := Aside0.mk hy380
 clear hy380
 replace H := Option.bind_eq_some_iff.mp H
 obtain ⟨t383, A20, H⟩ := H
 replace H : (if t383 = true then (spec_ExprList.l0 k y380 0 l0_0) else (some y380)) = some r := H
 have A2 := Aside0.mk A20
 clear A20
 by_cases c3 : t383 = true
 ·subst c3
  have H1 : (spec_ExprList.l0 k y380 0 l0_0) = some r := by rw [if_pos rfl] at H; exact H
  clear H
  have H := H1
  clear H1
  have H' := Aside0.mk H
  clear H
  go_enter Try.func31, Try.ntmps31
  go_wp2_with (first | ((with_reducible refine gate_dst (N := 1) rfl ?_); refine box_event ?hg (N := 1) ?hd (cs := #[.slice A0_0 l0_0.length c0_0]) (t := 29) ?hr ?_; (case hd => rfl); (case hg => rfl); (case hr => first | (go_simp; done) | (go_simp; rfl)); intro gb379 hg w4 hbox hb; have n_ := boxed (bel HB.out) hb hbox hg; clear HB hb hbox hg; obtain ⟨HB, BK379, GW379, GE379⟩ := n_) | ((with_reducible refine gate_dst (N := 5) rfl ?_); refine Kd.R_lit k45 _ 45 ?hg (N := 5) ?hd (xs := ([] : List (S45))) (inner := []) (ok := fun _ => True) (okp := fun _ => True) ?hr ?hp (fun _ hk => hk) trivial (Below.refl _ _) (Nat.le_refl _) (by simp) ?_; (case hd => rfl); (case hg => rfl); (case hr => first | (go_simp; done) | (go_simp; rfl)); (case hp => exact (Reps.none _ _)); intro v381 w5 ho6 hb hg_ hnew_; clear hg_ hnew_; (first | rw [← Ny380.out] at ho6 | (simp only [Int.reduceToNat] at ho6; rw [← Ny380.out] at ho6)); have n0_ := Aside0.mk (Kd.R_lower ho6 (below_size (by repeat (first | (with_reducible first | exact HB.out | apply below_alloc | apply pw_below_drewN | apply below_drew1 | refine below_set ?_ GE379.out) | exact HB.out)))); have n1_ := Aside0.mk (blk_below (g := gb379) (o := .cells #[.slice A0_0 l0_0.length c0_0] 29 (0, 0)) (by (with_reducible repeat (first | refine blk_drewN ?_ _ | refine blk_drew ?_ | refine blk_alloc ?_ _)); exact BK379.out) hb); have n2_ := Aside0.mk (below_step (by repeat (first | (with_reducible first | exact HB.out | apply below_alloc | apply pw_below_drewN | apply below_drew1 | refine below_set ?_ GE379.out) | exact HB.out)) hb); clear BK379; clear HB; have HO382 := n0_; have BK379 := n1_; have HB := n2_; clear n0_ n1_ n2_; clear hb ho6; have hcz7_0 : w5.cell? ⟨gb379, 0, none⟩ = some (.slice A0_0 l0_0.length c0_0) := (blk_cell BK379.out 0).trans rfl) | ((with_reducible refine gate_callee (f := 60) rfl ?_); refine goesL_ (some 7) rfl rfl Try.func60 (by kernel_rfl) rfl #[.agg #[.slice A0_0 l0_0.length c0_0]] rfl (by (try simp only [List.map_toArray, List.map_cons, List.map_nil]); first | done | rfl | (simp only [List.length_drop, List.length_take]; rfl)) ?_; (with_reducible refine (spec_ProgOk.calls k _ _ l0_0 true _ ?side1 ?side2 A2.out).mono ?_); (case side1 => repeat (first | exact (Kd.C_below HR0_0.out HB.out) | (with_reducible refine Kd.C_alloc ?_ _) | (with_reducible refine Kd.C_drewN ?_ _) | (with_reducible refine Kd.C_drew ?_))); (case side2 => exact HC0_0.out); rintro e w8 ⟨rfl, hb⟩; refine ⟨_, rfl, ?_⟩; have n0_ := Aside0.mk (Kd.R_below (by (with_reducible repeat (first | apply Kd.R_alloc | apply Kd.R_drewN | apply Kd.R_drew)); exact HO382.out) hb); have n1_ := Aside0.mk (blk_below (g := gb379) (o := .cells #[.slice A0_0 l0_0.length c0_0] 29 (0, 0)) (by (with_reducible repeat (first | refine blk_drewN ?_ _ | refine blk_drew ?_ | refine blk_alloc ?_ _)); exact BK379.out) hb); have n2_ := Aside0.mk (below_step (by repeat (first | (with_reducible first | exact HB.out | apply below_alloc | apply pw_below_drewN | apply below_drew1 | refine below_set ?_ GE379.out) | exact HB.out)) hb); clear HO382; clear BK379; clear HB; have HO382 := n0_; have BK379 := n1_; have HB := n2_; clear n0_ n1_ n2_; (try clear hb); (try clear hb2); (try clear hk); (try clear hi)))
  go_loopg [3, 4] k (fun kq v3 v4 w' => ∃ (x3_1 : List (S45)) (x4_1 : Int), v4 = .int .i64 x4_1 ∧ Aside0 (spec_ExprList.l0 kq x3_1 x4_1 l0_0 = some r) ∧ Aside0 (kq ≤ k) ∧ Aside0 (Kd.R k45 45 w' w.heap.size (fun _ => True) v3 x3_1) ∧ Aside0 (w'.heap[gb379]? = some (.cells #[(.slice A0_0 l0_0.length c0_0)] 29 (0, 0))) ∧ Aside0 (Below w.heap.size w w'))
  case atStart => exact ⟨(y380), (0), (by first | rfl | (simp; done) | (simp [*]; done)), H', ⟨Nat.le_refl _⟩, ⟨by (with_reducible repeat (first | apply Kd.R_alloc | apply Kd.R_drewN | apply Kd.R_drew)); exact HO382.out⟩, ⟨by (with_reducible repeat (first | refine blk_drewN ?_ _ | refine blk_drew ?_ | refine blk_alloc ?_ _)); exact BK379.out⟩, ⟨by repeat (first | (with_reducible first | exact HB.out | apply below_alloc | apply pw_below_drewN | apply below_drew1 | refine below_set ?_ GE379.out) | exact HB.out)⟩⟩
  case round =>
   clear H'
   try clear p2
   try clear c3
   try clear c6
   try clear hcz7_0
   try clear hfz7_0
   obtain ⟨x3_1, x4_1, rfl, HA, HK1, HO_3, BK379, HB⟩ := hrel
   cases gk with
   | zero => exact absurd HA.out (by simp [spec_ExprList.l0])
   | succ k1 =>
    have H := HA.out
    clear HA
    simp only [spec_ExprList.l0] at H
    by_cases c9 : x4_1 < (l0_0.length : Int)
    ·rw [if_pos c9] at H
     have c9b0 : decide (x4_1 < (l0_0.length : Int)) = true := decide_eq_true c9
     clear c9
     by_cases c10 : 0 ≤ x4_1
     ·rw [if_pos c10] at H
      have c10b0 : decide (0 ≤ x4_1) = true := decide_eq_true c10
      clear c10
      by_cases c11 : ((rd_T68 l0_0 x4_1).f0) = 1
      ·rw [if_pos c11] at H
       have c11b0 : (((rd_T68 l0_0 x4_1).f0) == 1) = true := beq_iff_eq.mpr c11
       have c11b1 : (((rd_T68 l0_0 x4_1).f0) != 1) = false := bne_eq_false_iff_eq.mpr c11
       clear c11
       replace H := Option.bind_eq_some_iff.mp H
       obtain ⟨⟨t386, t387, t388, t389, t390⟩, A120, H⟩ := H
       replace H : ((spec_l11Has.f k1 x3_1 t386 t387 t388 t389 t390).bind fun t391 => (if t391 = true then (spec_ExprList.l0 k1 x3_1 (wrap64 (x4_1 + 1)) l0_0) else ((spec_l11Of.f ((rd_T68 l0_0 x4_1).f0) ((rd_T68 l0_0 x4_1).f1) ((rd_T68 l0_0 x4_1).f2) ((rd_T68 l0_0 x4_1).f3.f0) ((rd_T68 l0_0 x4_1).f3.f1) ((rd_T68 l0_0 x4_1).f4.f0) ((rd_T68 l0_0 x4_1).f4.f1) ((rd_T68 l0_0 x4_1).f5)).bind fun bt393 => (if x3_1.length < 3518437208883 then (spec_ExprList.l0 k1 (x3_1 ++ [(⟨bt393.1, (⟨bt393.2.1, bt393.2.2.1⟩ : S43), (⟨bt393.2.2.2.1, bt393.2.2.2.2⟩ : S43)⟩ : S45)]) (wrap64 (x4_1 + 1)) l0_0) else (none))))) = some r := H
       have A12 := Aside0.mk A120
       clear A120
       replace H := Option.bind_eq_some_iff.mp H
       obtain ⟨t391, A130, H⟩ := H
       replace H : (if t391 = true then (spec_ExprList.l0 k1 x3_1 (wrap64 (x4_1 + 1)) l0_0) else ((spec_l11Of.f ((rd_T68 l0_0 x4_1).f0) ((rd_T68 l0_0 x4_1).f1) ((rd_T68 l0_0 x4_1).f2) ((rd_T68 l0_0 x4_1).f3.f0) ((rd_T68 l0_0 x4_1).f3.f1) ((rd_T68 l0_0 x4_1).f4.f0) ((rd_T68 l0_0 x4_1).f4.f1) ((rd_T68 l0_0 x4_1).f5)).bind fun bt393 => (if x3_1.length < 3518437208883 then (spec_ExprList.l0 k1 (x3_1 ++ [(⟨bt393.1, (⟨bt393.2.1, bt393.2.2.1⟩ : S43), (⟨bt393.2.2.2.1, bt393.2.2.2.2⟩ : S43)⟩ : S45)]) (wrap64 (x4_1 + 1)) l0_0) else (none)))) = some r := H
       have A13 := Aside0.mk A130
       clear A130
       by_cases c14 : t391 = true
       ·subst c14
        have H1 : (spec_ExprList.l0 k1 x3_1 (wrap64 (x4_1 + 1)) l0_0) = some r := by rw [if_pos rfl] at H; exact H
        clear H
        have H := H1
        clear H1
        have H' := Aside0.mk H
        clear H
        have hcz15_0 : wr.cell? ⟨gb379, 0, none⟩ = some (.slice A0_0 l0_0.length c0_0) := (blk_cell BK379.out 0).trans rfl
        have hfz15_0 := blk_frozen BK379.out 0
        have p384 : 0 ≤ (x4_1 : Int) := of_decide_eq_true (by first | (with_reducible assumption) | assumption)
        have q384 : x4_1 < (l0_0.length : Int) := of_decide_eq_true (by first | (with_reducible assumption) | assumption)
        obtain ⟨ad384, A384_7, c384_7, e384, hx384_0, hx384_1, hx384_2, hx384_3, hx384_4, hx384_5, hx384_6, hx384_7, hl384_7, hi384_7⟩ := at_T68 HR0_0.out x4_1 p384 q384
        cases e384
        replace hx384_0 := (HB.out.cell (World.block_lt_of_cell? w _ hx384_0)).trans hx384_0
        replace hx384_1 := (HB.out.cell (World.block_lt_of_cell? w _ hx384_1)).trans hx384_1
        replace hx384_2 := (HB.out.cell (World.block_lt_of_cell? w _ hx384_2)).trans hx384_2
        replace hx384_3 := (HB.out.cell (World.block_lt_of_cell? w _ hx384_3)).trans hx384_3
        replace hx384_4 := (HB.out.cell (World.block_lt_of_cell? w _ hx384_4)).trans hx384_4
        replace hx384_5 := (HB.out.cell (World.block_lt_of_cell? w _ hx384_5)).trans hx384_5
        replace hx384_6 := (HB.out.cell (World.block_lt_of_cell? w _ hx384_6)).trans hx384_6
        replace hx384_7 := (HB.out.cell (World.block_lt_of_cell? w _ hx384_7)).trans hx384_7
        have HR384_7 := Aside0.mk hi384_7
        have HC384_7 := Aside0.mk hl384_7
        clear hi384_7 hl384_7
        replace p384 := eq_true p384
        replace q384 := eq_true q384
        have p385 : 0 ≤ (x4_1 : Int) := of_decide_eq_true (by first | (with_reducible assumption) | assumption)
        have q385 : x4_1 < (l0_0.length : Int) := of_decide_eq_true (by first | (with_reducible assumption) | assumption)
        obtain ⟨ad385, A385_7, c385_7, e385, hx385_0, hx385_1, hx385_2, hx385_3, hx385_4, hx385_5, hx385_6, hx385_7, hl385_7, hi385_7⟩ := at_T68 HR0_0.out x4_1 p385 q385
        obtain rfl : ad384 = ad385 := (by injection e385)
        replace hx385_0 := (HB.out.cell (World.block_lt_of_cell? w _ hx385_0)).trans hx385_0
        replace hx385_1 := (HB.out.cell (World.block_lt_of_cell? w _ hx385_1)).trans hx385_1
        replace hx385_2 := (HB.out.cell (World.block_lt_of_cell? w _ hx385_2)).trans hx385_2
        replace hx385_3 := (HB.out.cell (World.block_lt_of_cell? w _ hx385_3)).trans hx385_3
        replace hx385_4 := (HB.out.cell (World.block_lt_of_cell? w _ hx385_4)).trans hx385_4
        replace hx385_5 := (HB.out.cell (World.block_lt_of_cell? w _ hx385_5)).trans hx385_5
        replace hx385_6 := (HB.out.cell (World.block_lt_of_cell? w _ hx385_6)).trans hx385_6
        replace hx385_7 := (HB.out.cell (World.block_lt_of_cell? w _ hx385_7)).trans hx385_7
        have HR385_7 := Aside0.mk hi385_7
        have HC385_7 := Aside0.mk hl385_7
        clear hi385_7 hl385_7
        replace p385 := eq_true p385
        replace q385 := eq_true q385
        have ea_ := Option.some.inj (hx384_7.symm.trans hx385_7)
        injection ea_ with ea_ en_ ec_
        subst ea_
        subst ec_
        clear en_
        go_wp2_with (first | (go_at_call 72; (with_reducible refine (spec_l11Of.calls ((rd_T68 l0_0 x4_1).f0) ((rd_T68 l0_0 x4_1).f1) ((rd_T68 l0_0 x4_1).f2) ((rd_T68 l0_0 x4_1).f3.f0) ((rd_T68 l0_0 x4_1).f3.f1) ((rd_T68 l0_0 x4_1).f4.f0) ((rd_T68 l0_0 x4_1).f4.f1) _ _ ((rd_T68 l0_0 x4_1).f5) t386 t387 t388 t389 t390 _ ?side1 ?side2 A12.out).mono ?_); (case side1 => repeat (first | exact (Kd.C_below HR385_7.out HB.out) | (with_reducible refine Kd.C_alloc ?_ _) | (with_reducible refine Kd.C_drewN ?_ _) | (with_reducible refine Kd.C_drew ?_))); (case side2 => exact HC385_7.out); rintro e w16 ⟨rfl, hb⟩; have n0_ := Aside0.mk (Kd.R_below (by (with_reducible repeat (first | apply Kd.R_alloc | apply Kd.R_drewN | apply Kd.R_drew)); exact HO_3.out) hb); have n1_ := Aside0.mk (blk_below (g := gb379) (o := .cells #[.slice (some ad384) l0_0.length c0_0] 29 (0, 0)) (by (with_reducible repeat (first | refine blk_drewN ?_ _ | refine blk_drew ?_ | refine blk_alloc ?_ _)); exact BK379.out) hb); have n2_ := Aside0.mk (below_step (by repeat (first | (with_reducible first | exact HB.out | apply below_alloc | apply pw_below_drewN | apply below_drew1 | refine below_set ?_ GE379.out) | exact HB.out)) hb); clear HO_3; clear BK379; clear HB; have HO_3 := n0_; have BK379 := n1_; have HB := n2_; clear n0_ n1_ n2_; (try clear hb); (try clear hb2); (try clear hk); (try clear hi); obtain ⟨Ao17, co17, eo17⟩ := Kd.R_slice HO_3.out; subst eo17) | (go_at_call 78; (with_reducible refine (spec_l11Has.calls k1 _ _ x3_1 t386 t387 t388 t389 t390 true _ ?side1 ?side2 A13.out).mono ?_); (case side1 => repeat (first | exact (Kd.R_reads' HO_3.out).2.2 | (with_reducible refine Kd.C_alloc ?_ _) | (with_reducible refine Kd.C_drewN ?_ _) | (with_reducible refine Kd.C_drew ?_))); (case side2 => exact (Kd.R_reads' HO_3.out).2.1); rintro e w18 ⟨rfl, hb⟩; have n0_ := Aside0.mk (Kd.R_below (by (with_reducible repeat (first | apply Kd.R_alloc | apply Kd.R_drewN | apply Kd.R_drew)); exact HO_3.out) hb); have n1_ := Aside0.mk (blk_below (g := gb379) (o := .cells #[.slice (some ad384) l0_0.length c0_0] 29 (0, 0)) (by (with_reducible repeat (first | refine blk_drewN ?_ _ | refine blk_drew ?_ | refine blk_alloc ?_ _)); exact BK379.out) hb); have n2_ := Aside0.mk (below_step (by repeat (first | (with_reducible first | exact HB.out | apply below_alloc | apply pw_below_drewN | apply below_drew1 | refine below_set ?_ GE379.out) | exact HB.out)) hb); clear HO_3; clear BK379; clear HB; have HO_3 := n0_; have BK379 := n1_; have HB := n2_; clear n0_ n1_ n2_; (try clear hb); (try clear hb2); (try clear hk); (try clear hi)))
        go_roundg k1
        case measure => have := HK1.out; omega
        case rel => exact ⟨(x3_1), (wrap64 (x4_1 + 1)), (by first | rfl | (simp; done) | (simp [*]; done)), H', ⟨by have := HK1.out; omega⟩, ⟨by (with_reducible repeat (first | apply Kd.R_alloc | apply Kd.R_drewN | apply Kd.R_drew)); exact HO_3.out⟩, ⟨by (with_reducible repeat (first | refine blk_drewN ?_ _ | refine blk_drew ?_ | refine blk_alloc ?_ _)); exact BK379.out⟩, ⟨by repeat (first | (with_reducible first | exact HB.out | apply below_alloc | apply pw_below_drewN | apply below_drew1 | refine below_set ?_ GE379.out) | exact HB.out)⟩⟩
       ·replace c14 := Bool.eq_false_iff.mpr c14
        subst c14
        have H1 : ((spec_l11Of.f ((rd_T68 l0_0 x4_1).f0) ((rd_T68 l0_0 x4_1).f1) ((rd_T68 l0_0 x4_1).f2) ((rd_T68 l0_0 x4_1).f3.f0) ((rd_T68 l0_0 x4_1).f3.f1) ((rd_T68 l0_0 x4_1).f4.f0) ((rd_T68 l0_0 x4_1).f4.f1) ((rd_T68 l0_0 x4_1).f5)).bind fun bt393 => (if x3_1.length < 3518437208883 then (spec_ExprList.l0 k1 (x3_1 ++ [(⟨bt393.1, (⟨bt393.2.1, bt393.2.2.1⟩ : S43), (⟨bt393.2.2.2.1, bt393.2.2.2.2⟩ : S43)⟩ : S45)]) (wrap64 (x4_1 + 1)) l0_0) else (none))) = some r := by rw [if_neg (show ¬ (false = true) by decide)] at H; exact H
        clear H
        have H := H1
        clear H1
        replace H := Option.bind_eq_some_iff.mp H
        obtain ⟨⟨t393, t394, t395, t396, t397⟩, A190, H⟩ := H
        replace H : (if x3_1.length < 3518437208883 then (spec_ExprList.l0 k1 (x3_1 ++ [(⟨t393, (⟨t394, t395⟩ : S43), (⟨t396, t397⟩ : S43)⟩ : S45)]) (wrap64 (x4_1 + 1)) l0_0) else (none)) = some r := H
        have A19 := Aside0.mk A190
        clear A190
        by_cases c20 : x3_1.length < 3518437208883
        ·rw [if_pos c20] at H
         have LMc20 := Aside0.mk c20
         clear c20
         obtain ⟨y398, hy398⟩ : ∃ y_ : List (S45), y_ = (x3_1 ++ [(⟨t393, (⟨t394, t395⟩ : S43), (⟨t396, t397⟩ : S43)⟩ : S45)]) := ⟨_, rfl⟩
         replace H : (spec_ExprList.l0 k1 y398 (wrap64 (x4_1 + 1)) l0_0) = some r := by first | (rw [hy398]; with_reducible exact H) | (have H2_ := (Option.bind_some _ _).symm.trans H; rw [hy398]; with_reducible exact H2_) | (have H2_ := (Option.bind_some _ _).symm.trans H; with_reducible exact H2_) | with_reducible exact H | (rw [hy398]; exact H) | exact H
         have Ny398 := Aside0.mk hy398
         clear hy398
         have H' := Aside0.mk H
         clear H
         have hcz21_0 : wr.cell? ⟨gb379, 0, none⟩ = some (.slice A0_0 l0_0.length c0_0) := (blk_cell BK379.out 0).trans rfl
         have hfz21_0 := blk_frozen BK379.out 0
         have p384 : 0 ≤ (x4_1 : Int) := of_decide_eq_true (by first | (with_reducible assumption) | assumption)
         have q384 : x4_1 < (l0_0.length : Int) := of_decide_eq_true (by first | (with_reducible assumption) | assumption)
         obtain ⟨ad384, A384_7, c384_7, e384, hx384_0, hx384_1, hx384_2, hx384_3, hx384_4, hx384_5, hx384_6, hx384_7, hl384_7, hi384_7⟩ := at_T68 HR0_0.out x4_1 p384 q384
         cases e384
         replace hx384_0 := (HB.out.cell (World.block_lt_of_cell? w _ hx384_0)).trans hx384_0
         replace hx384_1 := (HB.out.cell (World.block_lt_of_cell? w _ hx384_1)).trans hx384_1
         replace hx384_2 := (HB.out.cell (World.block_lt_of_cell? w _ hx384_2)).trans hx384_2
         replace hx384_3 := (HB.out.cell (World.block_lt_of_cell? w _ hx384_3)).trans hx384_3
         replace hx384_4 := (HB.out.cell (World.block_lt_of_cell? w _ hx384_4)).trans hx384_4
         replace hx384_5 := (HB.out.cell (World.block_lt_of_cell? w _ hx384_5)).trans hx384_5
         replace hx384_6 := (HB.out.cell (World.block_lt_of_cell? w _ hx384_6)).trans hx384_6
         replace hx384_7 := (HB.out.cell (World.block_lt_of_cell? w _ hx384_7)).trans hx384_7
         have HR384_7 := Aside0.mk hi384_7
         have HC384_7 := Aside0.mk hl384_7
         clear hi384_7 hl384_7
         replace p384 := eq_true p384
         replace q384 := eq_true q384
         have p385 : 0 ≤ (x4_1 : Int) := of_decide_eq_true (by first | (with_reducible assumption) | assumption)
         have q385 : x4_1 < (l0_0.length : Int) := of_decide_eq_true (by first | (with_reducible assumption) | assumption)
         obtain ⟨ad385, A385_7, c385_7, e385, hx385_0, hx385_1, hx385_2, hx385_3, hx385_4, hx385_5, hx385_6, hx385_7, hl385_7, hi385_7⟩ := at_T68 HR0_0.out x4_1 p385 q385
         obtain rfl : ad384 = ad385 := (by injection e385)
         replace hx385_0 := (HB.out.cell (World.block_lt_of_cell? w _ hx385_0)).trans hx385_0
         replace hx385_1 := (HB.out.cell (World.block_lt_of_cell? w _ hx385_1)).trans hx385_1
         replace hx385_2 := (HB.out.cell (World.block_lt_of_cell? w _ hx385_2)).trans hx385_2
         replace hx385_3 := (HB.out.cell (World.block_lt_of_cell? w _ hx385_3)).trans hx385_3
         replace hx385_4 := (HB.out.cell (World.block_lt_of_cell? w _ hx385_4)).trans hx385_4
         replace hx385_5 := (HB.out.cell (World.block_lt_of_cell? w _ hx385_5)).trans hx385_5
         replace hx385_6 := (HB.out.cell (World.block_lt_of_cell? w _ hx385_6)).trans hx385_6
         replace hx385_7 := (HB.out.cell (World.block_lt_of_cell? w _ hx385_7)).trans hx385_7
         have HR385_7 := Aside0.mk hi385_7
         have HC385_7 := Aside0.mk hl385_7
         clear hi385_7 hl385_7
         replace p385 := eq_true p385
         replace q385 := eq_true q385
         have ea_ := Option.some.inj (hx384_7.symm.trans hx385_7)
         injection ea_ with ea_ en_ ec_
         subst ea_
         subst ec_
         clear en_
         go_wp2_with (first | (go_at_call 72; (with_reducible refine (spec_l11Of.calls ((rd_T68 l0_0 x4_1).f0) ((rd_T68 l0_0 x4_1).f1) ((rd_T68 l0_0 x4_1).f2) ((rd_T68 l0_0 x4_1).f3.f0) ((rd_T68 l0_0 x4_1).f3.f1) ((rd_T68 l0_0 x4_1).f4.f0) ((rd_T68 l0_0 x4_1).f4.f1) _ _ ((rd_T68 l0_0 x4_1).f5) t386 t387 t388 t389 t390 _ ?side1 ?side2 A12.out).mono ?_); (case side1 => repeat (first | exact (Kd.C_below HR385_7.out HB.out) | (with_reducible refine Kd.C_alloc ?_ _) | (with_reducible refine Kd.C_drewN ?_ _) | (with_reducible refine Kd.C_drew ?_))); (case side2 => exact HC385_7.out); rintro e w22 ⟨rfl, hb⟩; have n0_ := Aside0.mk (Kd.R_below (by (with_reducible repeat (first | apply Kd.R_alloc | apply Kd.R_drewN | apply Kd.R_drew)); exact HO_3.out) hb); have n1_ := Aside0.mk (blk_below (g := gb379) (o := .cells #[.slice (some ad384) l0_0.length c0_0] 29 (0, 0)) (by (with_reducible repeat (first | refine blk_drewN ?_ _ | refine blk_drew ?_ | refine blk_alloc ?_ _)); exact BK379.out) hb); have n2_ := Aside0.mk (below_step (by repeat (first | (with_reducible first | exact HB.out | apply below_alloc | apply pw_below_drewN | apply below_drew1 | refine below_set ?_ GE379.out) | exact HB.out)) hb); clear HO_3; clear BK379; clear HB; have HO_3 := n0_; have BK379 := n1_; have HB := n2_; clear n0_ n1_ n2_; (try clear hb); (try clear hb2); (try clear hk); (try clear hi); obtain ⟨Ao23, co23, eo23⟩ := Kd.R_slice HO_3.out; subst eo23) | (go_at_call 78; (with_reducible refine (spec_l11Has.calls k1 _ _ x3_1 t386 t387 t388 t389 t390 false _ ?side1 ?side2 A13.out).mono ?_); (case side1 => repeat (first | exact (Kd.R_reads' HO_3.out).2.2 | (with_reducible refine Kd.C_alloc ?_ _) | (with_reducible refine Kd.C_drewN ?_ _) | (with_reducible refine Kd.C_drew ?_))); (case side2 => exact (Kd.R_reads' HO_3.out).2.1); rintro e w24 ⟨rfl, hb⟩; have n0_ := Aside0.mk (Kd.R_below (by (with_reducible repeat (first | apply Kd.R_alloc | apply Kd.R_drewN | apply Kd.R_drew)); exact HO_3.out) hb); have n1_ := Aside0.mk (blk_below (g := gb379) (o := .cells #[.slice (some ad384) l0_0.length c0_0] 29 (0, 0)) (by (with_reducible repeat (first | refine blk_drewN ?_ _ | refine blk_drew ?_ | refine blk_alloc ?_ _)); exact BK379.out) hb); have n2_ := Aside0.mk (below_step (by repeat (first | (with_reducible first | exact HB.out | apply below_alloc | apply pw_below_drewN | apply below_drew1 | refine below_set ?_ GE379.out) | exact HB.out)) hb); clear HO_3; clear BK379; clear HB; have HO_3 := n0_; have BK379 := n1_; have HB := n2_; clear n0_ n1_ n2_; (try clear hb); (try clear hb2); (try clear hk); (try clear hi); have hcz25_0 : w24.cell? ⟨gb379, 0, none⟩ = some (.slice (some ad384) l0_0.length c0_0) := (blk_cell BK379.out 0).trans rfl; have p392 : 0 ≤ (x4_1 : Int) := of_decide_eq_true (by first | (with_reducible assumption) | assumption); have q392 : x4_1 < (l0_0.length : Int) := of_decide_eq_true (by first | (with_reducible assumption) | assumption); obtain ⟨ad392, A392_7, c392_7, e392, hx392_0, hx392_1, hx392_2, hx392_3, hx392_4, hx392_5, hx392_6, hx392_7, hl392_7, hi392_7⟩ := at_T68 HR0_0.out x4_1 p392 q392; obtain rfl : ad384 = ad392 := (by injection e392); replace hx392_0 := (HB.out.cell (World.block_lt_of_cell? w _ hx392_0)).trans hx392_0; replace hx392_1 := (HB.out.cell (World.block_lt_of_cell? w _ hx392_1)).trans hx392_1; replace hx392_2 := (HB.out.cell (World.block_lt_of_cell? w _ hx392_2)).trans hx392_2; replace hx392_3 := (HB.out.cell (World.block_lt_of_cell? w _ hx392_3)).trans hx392_3; replace hx392_4 := (HB.out.cell (World.block_lt_of_cell? w _ hx392_4)).trans hx392_4; replace hx392_5 := (HB.out.cell (World.block_lt_of_cell? w _ hx392_5)).trans hx392_5; replace hx392_6 := (HB.out.cell (World.block_lt_of_cell? w _ hx392_6)).trans hx392_6; replace hx392_7 := (HB.out.cell (World.block_lt_of_cell? w _ hx392_7)).trans hx392_7; have HR392_7 := Aside0.mk hi392_7; have HC392_7 := Aside0.mk hl392_7; clear hi392_7 hl392_7; replace p392 := eq_true p392; replace q392 := eq_true q392) | ((with_reducible refine gate_callee (f := 72) rfl ?_); refine goesL_ (some 41) rfl rfl Try.func72 (by kernel_rfl) rfl #[.agg #[.int .i64 ((rd_T68 l0_0 x4_1).f0), .int .i64 ((rd_T68 l0_0 x4_1).f1), .int .i64 ((rd_T68 l0_0 x4_1).f2), .int .i64 ((rd_T68 l0_0 x4_1).f3.f0), .int .i64 ((rd_T68 l0_0 x4_1).f3.f1), .int .i64 ((rd_T68 l0_0 x4_1).f4.f0), .int .i64 ((rd_T68 l0_0 x4_1).f4.f1), .slice A392_7 ((rd_T68 l0_0 x4_1).f5).length c392_7]] rfl (by (try simp only [List.map_toArray, List.map_cons, List.map_nil]); first | done | rfl | (simp only [List.length_drop, List.length_take]; rfl)) ?_; (with_reducible refine (spec_l11Of.calls ((rd_T68 l0_0 x4_1).f0) ((rd_T68 l0_0 x4_1).f1) ((rd_T68 l0_0 x4_1).f2) ((rd_T68 l0_0 x4_1).f3.f0) ((rd_T68 l0_0 x4_1).f3.f1) ((rd_T68 l0_0 x4_1).f4.f0) ((rd_T68 l0_0 x4_1).f4.f1) _ _ ((rd_T68 l0_0 x4_1).f5) t393 t394 t395 t396 t397 _ ?side1 ?side2 A19.out).mono ?_); (case side1 => repeat (first | exact (Kd.C_below HR392_7.out HB.out) | (with_reducible refine Kd.C_alloc ?_ _) | (with_reducible refine Kd.C_drewN ?_ _) | (with_reducible refine Kd.C_drew ?_))); (case side2 => exact HC392_7.out); rintro e w26 ⟨rfl, hb⟩; refine ⟨_, rfl, ?_⟩; have n0_ := Aside0.mk (Kd.R_below (by (with_reducible repeat (first | apply Kd.R_alloc | apply Kd.R_drewN | apply Kd.R_drew)); exact HO_3.out) hb); have n1_ := Aside0.mk (blk_below (g := gb379) (o := .cells #[.slice (some ad384) l0_0.length c0_0] 29 (0, 0)) (by (with_reducible repeat (first | refine blk_drewN ?_ _ | refine blk_drew ?_ | refine blk_alloc ?_ _)); exact BK379.out) hb); have n2_ := Aside0.mk (below_step (by repeat (first | (with_reducible first | exact HB.out | apply below_alloc | apply pw_below_drewN | apply below_drew1 | refine below_set ?_ GE379.out) | exact HB.out)) hb); clear HO_3; clear BK379; clear HB; have HO_3 := n0_; have BK379 := n1_; have HB := n2_; clear n0_ n1_ n2_; (try clear hb); (try clear hb2); (try clear hk); (try clear hi)) | ((with_reducible refine gate_builtin (b := .append) (xs := #[.tmp 35, .tmp 42]) rfl ?_); at_builtin; refine Kd.R_append k45 (w0 := w) w.heap.size rfl (.tmp 35) (.tmp 42) 48 45 (.agg #[(.int .i64 0), (.int .i64 0), (.int .i64 0), (.int .i64 0), (.int .i64 0)]) 40 rfl Try.underlying48 info45 rfl (by decide) (by omega) (.slice Ao23 x3_1.length co23) x3_1 (⟨t393, (⟨t394, t395⟩ : S43), (⟨t396, t397⟩ : S43)⟩ : S45) [.int .i64 t393, .int .i64 t394, .int .i64 t395, .int .i64 t396, .int .i64 t397] (fun _ => True) (fun _ => False) rfl rfl ?aP (fun _ hk => hk.elim) ?aF ?aO ?aB ?aS ?aL ?_; (case aP => exact k45_mkM _ _ _ (⟨t393, (⟨t394, t395⟩ : S43), (⟨t396, t397⟩ : S43)⟩ : S45)); (case aB => exact (by repeat (first | (with_reducible first | exact HB.out | apply below_alloc | apply pw_below_drewN | apply below_drew1 | refine below_set ?_ GE379.out) | exact HB.out))); (case aF => exact (fun _ _ => trivial)); (case aO => exact (by (with_reducible repeat (first | apply Kd.R_alloc | apply Kd.R_drewN | apply Kd.R_drew)); exact HO_3.out)); (case aS => exact (below_size (by repeat (first | (with_reducible first | exact HB.out | apply below_alloc | apply pw_below_drewN | apply below_drew1 | refine below_set ?_ GE379.out) | exact HB.out)))); (case aL => have := LMc20.out; omega); intro v399 w27 ho hb hg hat; rw [← Ny398.out] at ho; have n0_ := Aside0.mk (blk_grown (g := gb379) (o := .cells #[.slice (some ad384) l0_0.length c0_0] 29 (0, 0)) (by (with_reducible repeat (first | refine blk_drewN ?_ _ | refine blk_drew ?_ | refine blk_alloc ?_ _)); exact BK379.out) hg (Kd.R_ne HO_3.out BK379.out (by decide))); have n1_ := Aside0.mk (hb); have n2_ := Aside0.mk (ho); clear BK379; clear HB; clear HO_3; have BK379 := n0_; have HB := n1_; have HO400 := n2_; clear n0_ n1_ n2_; clear ho hb hg hat))
         go_roundg k1
         case measure => have := HK1.out; omega
         case rel => exact ⟨(y398), (wrap64 (x4_1 + 1)), (by first | rfl | (simp; done) | (simp [*]; done)), H', ⟨by have := HK1.out; omega⟩, ⟨by (with_reducible repeat (first | apply Kd.R_alloc | apply Kd.R_drewN | apply Kd.R_drew)); exact HO400.out⟩, ⟨by (with_reducible repeat (first | refine blk_drewN ?_ _ | refine blk_drew ?_ | refine blk_alloc ?_ _)); exact BK379.out⟩, ⟨by repeat (first | (with_reducible first | exact HB.out | apply below_alloc | apply pw_below_drewN | apply below_drew1 | refine below_set ?_ GE379.out) | exact HB.out)⟩⟩
        ·rw [if_neg c20] at H
         exact absurd H (by simp)
      ·rw [if_neg c11] at H
       have c11b0 : (((rd_T68 l0_0 x4_1).f0) == 1) = false := beq_eq_false_iff_ne.mpr c11
       have c11b1 : (((rd_T68 l0_0 x4_1).f0) != 1) = true := bne_iff_ne.mpr c11
       have H' := Aside0.mk H
       clear H
       have hcz28_0 : wr.cell? ⟨gb379, 0, none⟩ = some (.slice A0_0 l0_0.length c0_0) := (blk_cell BK379.out 0).trans rfl
       have hfz28_0 := blk_frozen BK379.out 0
       have p384 : 0 ≤ (x4_1 : Int) := of_decide_eq_true (by first | (with_reducible assumption) | assumption)
       have q384 : x4_1 < (l0_0.length : Int) := of_decide_eq_true (by first | (with_reducible assumption) | assumption)
       obtain ⟨ad384, A384_7, c384_7, e384, hx384_0, hx384_1, hx384_2, hx384_3, hx384_4, hx384_5, hx384_6, hx384_7, hl384_7, hi384_7⟩ := at_T68 HR0_0.out x4_1 p384 q384
       cases e384
       replace hx384_0 := (HB.out.cell (World.block_lt_of_cell? w _ hx384_0)).trans hx384_0
       replace hx384_1 := (HB.out.cell (World.block_lt_of_cell? w _ hx384_1)).trans hx384_1
       replace hx384_2 := (HB.out.cell (World.block_lt_of_cell? w _ hx384_2)).trans hx384_2
       replace hx384_3 := (HB.out.cell (World.block_lt_of_cell? w _ hx384_3)).trans hx384_3
       replace hx384_4 := (HB.out.cell (World.block_lt_of_cell? w _ hx384_4)).trans hx384_4
       replace hx384_5 := (HB.out.cell (World.block_lt_of_cell? w _ hx384_5)).trans hx384_5
       replace hx384_6 := (HB.out.cell (World.block_lt_of_cell? w _ hx384_6)).trans hx384_6
       replace hx384_7 := (HB.out.cell (World.block_lt_of_cell? w _ hx384_7)).trans hx384_7
       have HR384_7 := Aside0.mk hi384_7
       have HC384_7 := Aside0.mk hl384_7
       clear hi384_7 hl384_7
       replace p384 := eq_true p384
       replace q384 := eq_true q384
       go_wp2
       go_roundg k1
       case measure => have := HK1.out; omega
       case rel => exact ⟨(x3_1), (wrap64 (x4_1 + 1)), (by first | rfl | (simp; done) | (simp [*]; done)), H', ⟨by have := HK1.out; omega⟩, ⟨by (with_reducible repeat (first | apply Kd.R_alloc | apply Kd.R_drewN | apply Kd.R_drew)); exact HO_3.out⟩, ⟨by (with_reducible repeat (first | refine blk_drewN ?_ _ | refine blk_drew ?_ | refine blk_alloc ?_ _)); exact BK379.out⟩, ⟨by repeat (first | (with_reducible first | exact HB.out | apply below_alloc | apply pw_below_drewN | apply below_drew1 | refine below_set ?_ GE379.out) | exact HB.out)⟩⟩
     ·rw [if_neg c10] at H
      exact absurd H (by simp)
    ·rw [if_neg c9] at H
     have c9b0 : decide (x4_1 < (l0_0.length : Int)) = false := decide_eq_false c9
     clear c9
     obtain rfl := Option.some.inj H
     have hcz29_0 : wr.cell? ⟨gb379, 0, none⟩ = some (.slice A0_0 l0_0.length c0_0) := (blk_cell BK379.out 0).trans rfl
     have hfz29_0 := blk_frozen BK379.out 0
     go_wp2
     go_ret
     exact ⟨_, by first | rfl | (simp [errW_none, errW_some] <;> rfl) | (simp [*, errW_none, errW_some] <;> rfl), by (with_reducible repeat (first | apply Kd.R_alloc | apply Kd.R_drewN | apply Kd.R_drew)); exact HO_3.out, by repeat (first | (with_reducible first | exact HB.out | apply below_alloc | apply pw_below_drewN | apply below_drew1 | refine below_set ?_ GE379.out) | exact HB.out)⟩
 ·replace c3 := Bool.eq_false_iff.mpr c3
  subst c3
  have H1 : (some y380) = some r := by rw [if_neg (show ¬ (false = true) by decide)] at H; exact H
  clear H
  have H := H1
  clear H1
  obtain rfl := Option.some.inj H
  go_enter Try.func31, Try.ntmps31
  go_wp2_with (first | ((with_reducible refine gate_dst (N := 1) rfl ?_); refine box_event ?hg (N := 1) ?hd (cs := #[.slice A0_0 l0_0.length c0_0]) (t := 29) ?hr ?_; (case hd => rfl); (case hg => rfl); (case hr => first | (go_simp; done) | (go_simp; rfl)); intro gb379 hg w30 hbox hb; have n_ := boxed (bel HB.out) hb hbox hg; clear HB hb hbox hg; obtain ⟨HB, BK379, GW379, GE379⟩ := n_) | ((with_reducible refine gate_dst (N := 5) rfl ?_); refine Kd.R_lit k45 _ 45 ?hg (N := 5) ?hd (xs := ([] : List (S45))) (inner := []) (ok := fun _ => True) (okp := fun _ => True) ?hr ?hp (fun _ hk => hk) trivial (Below.refl _ _) (Nat.le_refl _) (by simp) ?_; (case hd => rfl); (case hg => rfl); (case hr => first | (go_simp; done) | (go_simp; rfl)); (case hp => exact (Reps.none _ _)); intro v381 w31 ho32 hb hg_ hnew_; clear hg_ hnew_; (first | rw [← Ny380.out] at ho32 | (simp only [Int.reduceToNat] at ho32; rw [← Ny380.out] at ho32)); have n0_ := Aside0.mk (Kd.R_lower ho32 (below_size (by repeat (first | (with_reducible first | exact HB.out | apply below_alloc | apply pw_below_drewN | apply below_drew1 | refine below_set ?_ GE379.out) | exact HB.out)))); have n1_ := Aside0.mk (blk_below (g := gb379) (o := .cells #[.slice A0_0 l0_0.length c0_0] 29 (0, 0)) (by (with_reducible repeat (first | refine blk_drewN ?_ _ | refine blk_drew ?_ | refine blk_alloc ?_ _)); exact BK379.out) hb); have n2_ := Aside0.mk (below_step (by repeat (first | (with_reducible first | exact HB.out | apply below_alloc | apply pw_below_drewN | apply below_drew1 | refine below_set ?_ GE379.out) | exact HB.out)) hb); clear BK379; clear HB; have HO382 := n0_; have BK379 := n1_; have HB := n2_; clear n0_ n1_ n2_; clear hb ho32; have hcz33_0 : w31.cell? ⟨gb379, 0, none⟩ = some (.slice A0_0 l0_0.length c0_0) := (blk_cell BK379.out 0).trans rfl) | ((with_reducible refine gate_callee (f := 60) rfl ?_); refine goesL_ (some 7) rfl rfl Try.func60 (by kernel_rfl) rfl #[.agg #[.slice A0_0 l0_0.length c0_0]] rfl (by (try simp only [List.map_toArray, List.map_cons, List.map_nil]); first | done | rfl | (simp only [List.length_drop, List.length_take]; rfl)) ?_; (with_reducible refine (spec_ProgOk.calls k _ _ l0_0 false _ ?side1 ?side2 A2.out).mono ?_); (case side1 => repeat (first | exact (Kd.C_below HR0_0.out HB.out) | (with_reducible refine Kd.C_alloc ?_ _) | (with_reducible refine Kd.C_drewN ?_ _) | (with_reducible refine Kd.C_drew ?_))); (case side2 => exact HC0_0.out); rintro e w34 ⟨rfl, hb⟩; refine ⟨_, rfl, ?_⟩; have n0_ := Aside0.mk (Kd.R_below (by (with_reducible repeat (first | apply Kd.R_alloc | apply Kd.R_drewN | apply Kd.R_drew)); exact HO382.out) hb); have n1_ := Aside0.mk (blk_below (g := gb379) (o := .cells #[.slice A0_0 l0_0.length c0_0] 29 (0, 0)) (by (with_reducible repeat (first | refine blk_drewN ?_ _ | refine blk_drew ?_ | refine blk_alloc ?_ _)); exact BK379.out) hb); have n2_ := Aside0.mk (below_step (by repeat (first | (with_reducible first | exact HB.out | apply below_alloc | apply pw_below_drewN | apply below_drew1 | refine below_set ?_ GE379.out) | exact HB.out)) hb); clear HO382; clear BK379; clear HB; have HO382 := n0_; have BK379 := n1_; have HB := n2_; clear n0_ n1_ n2_; (try clear hb); (try clear hb2); (try clear hk); (try clear hi)))
  go_ret
  exact ⟨_, by first | rfl | (simp [errW_none, errW_some] <;> rfl) | (simp [*, errW_none, errW_some] <;> rfl), by (with_reducible repeat (first | apply Kd.R_alloc | apply Kd.R_drewN | apply Kd.R_drew)); exact HO382.out, by repeat (first | (with_reducible first | exact HB.out | apply below_alloc | apply pw_below_drewN | apply below_drew1 | refine below_set ?_ GE379.out) | exact HB.out)⟩

/-! ### impl_Expr_109: function 109 -/
def impl_Expr_109.l0 : Nat → List (S45) → Int → Int → Int → Int → Int → Int → Int → Option (Int)
 | 0, _, _, _, _, _, _, _, _ => none
 | k + 1, x0, x7, x8, x402000, x402001, x402002, x402003, x402004 => if x8 < x7 then (if 0 ≤ x8 then (if x8 < (x0.length : Int) then (if (x402000 == ((rd_T45 x0 x8).f0) && ((x402001 == ((rd_T45 x0 x8).f1.f0) && (x402002 == ((rd_T45 x0 x8).f1.f1))) && ((x402003 == ((rd_T45 x0 x8).f2.f0) && (x402004 == ((rd_T45 x0 x8).f2.f1)))))) = true then (some x8) else (impl_Expr_109.l0 k x0 x7 (wrap64 (x8 + 1)) x402000 x402001 x402002 x402003 x402004)) else (none)) else (none)) else (some (-1))
def impl_Expr_109.f (k : Nat) (l0 : List (S45)) (a1_0 : Int) (a1_1 : Int) (a1_2 : Int) (a1_3 : Int) (a1_4 : Int) : Option (Int) := impl_Expr_109.l0 k l0 (l0.length : Int) 0 a1_0 a1_1 a1_2 a1_3 a1_4
theorem impl_Expr_109.mono_l : ∀ k, (∀ y0 y1 y2 y3 y4 y5 y6 y7, LeO (impl_Expr_109.l0 k y0 y1 y2 y3 y4 y5 y6 y7) (impl_Expr_109.l0 (k + 1) y0 y1 y2 y3 y4 y5 y6 y7))
 | 0 => fun _ _ _ _ _ _ _ _ r h => by simp [impl_Expr_109.l0] at h
 | k + 1 => by
  have ih0 := impl_Expr_109.mono_l k
  ·intro y0 y1 y2 y3 y4 y5 y6 y7
   unfold impl_Expr_109.l0
   repeat' first
   | (with_reducible exact ih0 _ _ _ _ _ _ _ _)
   | (with_reducible exact LeO.refl _)
   | (with_reducible exact LeO.none _)
   | (with_reducible refine LeO.ite ?_ ?_)
   | (with_reducible refine LeO.bind ?_ (fun _ => ?_))
   | exact ih0 _ _ _ _ _ _ _ _
   | exact LeO.none _
   | refine LeO.ite ?_ ?_
   | refine LeO.bind ?_ (fun _ => ?_)
theorem impl_Expr_109.mono : ∀ a0 a1 a2 a3 a4 a5 k, LeO (impl_Expr_109.f k a0 a1 a2 a3 a4 a5) (impl_Expr_109.f (k + 1) a0 a1 a2 a3 a4 a5) := by
 intro a0 a1 a2 a3 a4 a5 k
 have ih0 := impl_Expr_109.mono_l k
 unfold impl_Expr_109.f
 repeat' first
   | (with_reducible exact ih0 _ _ _ _ _ _ _ _)
   | (with_reducible exact LeO.refl _)
   | (with_reducible exact LeO.none _)
   | (with_reducible refine LeO.ite ?_ ?_)
   | (with_reducible refine LeO.bind ?_ (fun _ => ?_))
   | exact ih0 _ _ _ _ _ _ _ _
   | exact LeO.none _
   | refine LeO.ite ?_ ?_
   | refine LeO.bind ?_ (fun _ => ?_)
set_option maxHeartbeats 8000000 in
set_option maxRecDepth 100000 in
theorem impl_Expr_109.calls (k : Nat) (A0 : Option Addr) (c0 : Nat) (l0 : List (S45)) (a1_0 : Int) (a1_1 : Int) (a1_2 : Int) (a1_3 : Int) (a1_4 : Int) (r : Int) (w : World) (hr0 : Kd.C k45 w A0 l0.length l0) (hc0 : l0.length ≤ c0) (h : impl_Expr_109.f k l0 a1_0 a1_1 a1_2 a1_3 a1_4 = some r) :
  Calls Try.prog 109 #[.slice A0 l0.length c0, .agg #[.int .i64 a1_0, .int .i64 a1_1, .int .i64 a1_2, .int .i64 a1_3, .int .i64 a1_4]] w fun e w' => e = .returned (.int .i64 r) ∧ Below w.heap.size w w' := by
 have hu45 := Try.underlying45
 have HR0 := Aside0.mk hr0
 have HC0 := Aside0.mk hc0
 clear hr0 hc0
 have HB := Aside0.mk (Below.refl w.heap.size w)
 have H : (impl_Expr_109.l0 k l0 (l0.length : Int) 0 a1_0 a1_1 a1_2 a1_3 a1_4) = some r := h
 clear h
 have H' := Aside0.mk H
 clear H
 go_enter Try.func109, Try.ntmps109
 go_wp2_with (first | ((with_reducible refine gate_dst (N := 3) rfl ?_); refine box_event ?hg (N := 3) ?hd (cs := #[.int .i64 a1_0, .int .i64 a1_1, .int .i64 a1_2, .int .i64 a1_3, .int .i64 a1_4]) (t := 45) ?hr ?_; (case hd => rfl); (case hg => rfl); (case hr => first | (go_simp; done) | (go_simp; rfl)); intro gb401 hg w3 hbox hb; have n_ := boxed (bel HB.out) hb hbox hg; clear HB hb hbox hg; obtain ⟨HB, BK401, GW401, GE401⟩ := n_))
 repeat (go_quiet (first | ((with_reducible refine gate_dst (N := 3) rfl ?_); refine box_event ?hg (N := 3) ?hd (cs := #[.int .i64 a1_0, .int .i64 a1_1, .int .i64 a1_2, .int .i64 a1_3, .int .i64 a1_4]) (t := 45) ?hr ?_; (case hd => rfl); (case hg => rfl); (case hr => first | (go_simp; done) | (go_simp; rfl)); intro gb401 hg w3 hbox hb; have n_ := boxed (bel HB.out) hb hbox hg; clear HB hb hbox hg; obtain ⟨HB, BK401, GW401, GE401⟩ := n_)); try go_wp2_with (first | ((with_reducible refine gate_dst (N := 3) rfl ?_); refine box_event ?hg (N := 3) ?hd (cs := #[.int .i64 a1_0, .int .i64 a1_1, .int .i64 a1_2, .int .i64 a1_3, .int .i64 a1_4]) (t := 45) ?hr ?_; (case hd => rfl); (case hg => rfl); (case hr => first | (go_simp; done) | (go_simp; rfl)); intro gb401 hg w3 hbox hb; have n_ := boxed (bel HB.out) hb hbox hg; clear HB hb hbox hg; obtain ⟨HB, BK401, GW401, GE401⟩ := n_)))
 go_loopg [8] k (fun kq v8 w' => ∃ (x8_1 : Int), v8 = .int .i64 x8_1 ∧ Aside0 (impl_Expr_109.l0 kq l0 (l0.length : Int) x8_1 a1_0 a1_1 a1_2 a1_3 a1_4 = some r) ∧ Aside0 (kq ≤ k) ∧ Aside0 (w'.heap[gb401]? = some (.cells #[.int .i64 a1_0, .int .i64 a1_1, .int .i64 a1_2, .int .i64 a1_3, .int .i64 a1_4] 45 (0, 0))) ∧ Aside0 (Below w.heap.size w w'))
 case atStart => exact ⟨(0), (by first | rfl | (simp; done) | (simp [*]; done)), H', ⟨Nat.le_refl _⟩, ⟨by (with_reducible repeat (first | refine blk_drewN ?_ _ | refine blk_drew ?_ | refine blk_alloc ?_ _)); exact BK401.out⟩, ⟨by repeat (first | (with_reducible first | exact HB.out | apply below_alloc | apply pw_below_drewN | apply below_drew1 | refine below_set ?_ GE401.out) | exact HB.out)⟩⟩
 case round =>
  clear H'
  try clear c1
  try clear p2
  obtain ⟨x8_1, rfl, HA, HK1, BK401, HB⟩ := hrel
  cases gk with
  | zero => exact absurd HA.out (by simp [impl_Expr_109.l0])
  | succ k1 =>
   have H := HA.out
   clear HA
   simp only [impl_Expr_109.l0] at H
   by_cases c4 : x8_1 < (l0.length : Int)
   ·rw [if_pos c4] at H
    have c4b0 : decide (x8_1 < (l0.length : Int)) = true := decide_eq_true c4
    clear c4
    by_cases c5 : 0 ≤ x8_1
    ·rw [if_pos c5] at H
     have c5b0 : decide (0 ≤ x8_1) = true := decide_eq_true c5
     clear c5
     by_cases c6 : x8_1 < (l0.length : Int)
     ·rw [if_pos c6] at H
      have c6b0 : decide (x8_1 < (l0.length : Int)) = true := decide_eq_true c6
      clear c6
      by_cases c7 : (a1_0 == ((rd_T45 l0 x8_1).f0) && ((a1_1 == ((rd_T45 l0 x8_1).f1.f0) && (a1_2 == ((rd_T45 l0 x8_1).f1.f1))) && ((a1_3 == ((rd_T45 l0 x8_1).f2.f0) && (a1_4 == ((rd_T45 l0 x8_1).f2.f1)))))) = true
      ·rw [if_pos c7] at H
       have c7b0 : (a1_0 == ((rd_T45 l0 x8_1).f0) && ((a1_1 == ((rd_T45 l0 x8_1).f1.f0) && (a1_2 == ((rd_T45 l0 x8_1).f1.f1))) && ((a1_3 == ((rd_T45 l0 x8_1).f2.f0) && (a1_4 == ((rd_T45 l0 x8_1).f2.f1)))))) = true := c7
       (try (have c7b1 : decide (a1_0 = ((rd_T45 l0 x8_1).f0) && ((a1_1 == ((rd_T45 l0 x8_1).f1.f0) && (a1_2 == ((rd_T45 l0 x8_1).f1.f1))) && ((a1_3 == ((rd_T45 l0 x8_1).f2.f0) && (a1_4 == ((rd_T45 l0 x8_1).f2.f1)))))) = true := by simpa using c7))
       (try (have c7b2 : (a1_0 == ((rd_T45 l0 x8_1).f0) && ((a1_1 == ((rd_T45 l0 x8_1).f1.f0) && (a1_2 == ((rd_T45 l0 x8_1).f1.f1))) && ((a1_3 == ((rd_T45 l0 x8_1).f2.f0) && (a1_4 == ((rd_T45 l0 x8_1).f2.f1)))))) = true := by simpa using c7))
       clear c7
       obtain rfl := Option.some.inj H
       have hcz8_0 : wr.cell? ⟨gb401, 0, none⟩ = some (.int .i64 a1_0) := (blk_cell BK401.out 0).trans rfl
       have hcz8_1 : wr.cell? ⟨gb401, 1, none⟩ = some (.int .i64 a1_1) := (blk_cell BK401.out 1).trans rfl
       have hcz8_2 : wr.cell? ⟨gb401, 2, none⟩ = some (.int .i64 a1_2) := (blk_cell BK401.out 2).trans rfl
       have hcz8_3 : wr.cell? ⟨gb401, 3, none⟩ = some (.int .i64 a1_3) := (blk_cell BK401.out 3).trans rfl
       have hcz8_4 : wr.cell? ⟨gb401, 4, none⟩ = some (.int .i64 a1_4) := (blk_cell BK401.out 4).trans rfl
       have hfz8_0 := blk_frozen BK401.out 0
       have hfz8_1 := blk_frozen BK401.out 1
       have hfz8_2 := blk_frozen BK401.out 2
       have hfz8_3 := blk_frozen BK401.out 3
       have hfz8_4 := blk_frozen BK401.out 4
       have p402 : 0 ≤ (x8_1 : Int) := of_decide_eq_true (by first | (with_reducible assumption) | assumption)
       have q402 : x8_1 < (l0.length : Int) := of_decide_eq_true (by first | (with_reducible assumption) | assumption)
       obtain ⟨ad402, e402, hx402_0, hx402_1, hx402_2, hx402_3, hx402_4⟩ := at_T45 HR0.out x8_1 p402 q402
       cases e402
       replace hx402_0 := (HB.out.cell (World.block_lt_of_cell? w _ hx402_0)).trans hx402_0
       replace hx402_1 := (HB.out.cell (World.block_lt_of_cell? w _ hx402_1)).trans hx402_1
       replace hx402_2 := (HB.out.cell (World.block_lt_of_cell? w _ hx402_2)).trans hx402_2
       replace hx402_3 := (HB.out.cell (World.block_lt_of_cell? w _ hx402_3)).trans hx402_3
       replace hx402_4 := (HB.out.cell (World.block_lt_of_cell? w _ hx402_4)).trans hx402_4
       replace p402 := eq_true p402
       replace q402 := eq_true q402
       go_wp2
       repeat (go_quiet (fail); try go_wp2)
       go_ret
       exact ⟨by first | rfl | (simp [errW_none, errW_some] <;> rfl) | (simp [*, errW_none, errW_some] <;> rfl), by repeat (first | (with_reducible first | exact HB.out | apply below_alloc | apply pw_below_drewN | apply below_drew1 | refine below_set ?_ GE401.out) | exact HB.out)⟩
      ·rw [if_neg c7] at H
       have c7b0 : (a1_0 == ((rd_T45 l0 x8_1).f0) && ((a1_1 == ((rd_T45 l0 x8_1).f1.f0) && (a1_2 == ((rd_T45 l0 x8_1).f1.f1))) && ((a1_3 == ((rd_T45 l0 x8_1).f2.f0) && (a1_4 == ((rd_T45 l0 x8_1).f2.f1)))))) = false := by simpa using c7
       (try (have c7b1 : decide (a1_0 = ((rd_T45 l0 x8_1).f0) && ((a1_1 == ((rd_T45 l0 x8_1).f1.f0) && (a1_2 == ((rd_T45 l0 x8_1).f1.f1))) && ((a1_3 == ((rd_T45 l0 x8_1).f2.f0) && (a1_4 == ((rd_T45 l0 x8_1).f2.f1)))))) = false := by simpa using c7))
       (try (have c7b2 : (a1_0 == ((rd_T45 l0 x8_1).f0) && ((a1_1 == ((rd_T45 l0 x8_1).f1.f0) && (a1_2 == ((rd_T45 l0 x8_1).f1.f1))) && ((a1_3 == ((rd_T45 l0 x8_1).f2.f0) && (a1_4 == ((rd_T45 l0 x8_1).f2.f1)))))) = false := by simpa using c7))
       (try (have c7b3 : ¬ (a1_0 = ((rd_T45 l0 x8_1).f0) && ((a1_1 == ((rd_T45 l0 x8_1).f1.f0) && (a1_2 == ((rd_T45 l0 x8_1).f1.f1))) && ((a1_3 == ((rd_T45 l0 x8_1).f2.f0) && (a1_4 == ((rd_T45 l0 x8_1).f2.f1)))))) := by simpa using c7))
       clear c7
       have H' := Aside0.mk H
       clear H
       have hcz9_0 : wr.cell? ⟨gb401, 0, none⟩ = some (.int .i64 a1_0) := (blk_cell BK401.out 0).trans rfl
       have hcz9_1 : wr.cell? ⟨gb401, 1, none⟩ = some (.int .i64 a1_1) := (blk_cell BK401.out 1).trans rfl
       have hcz9_2 : wr.cell? ⟨gb401, 2, none⟩ = some (.int .i64 a1_2) := (blk_cell BK401.out 2).trans rfl
       have hcz9_3 : wr.cell? ⟨gb401, 3, none⟩ = some (.int .i64 a1_3) := (blk_cell BK401.out 3).trans rfl
       have hcz9_4 : wr.cell? ⟨gb401, 4, none⟩ = some (.int .i64 a1_4) := (blk_cell BK401.out 4).trans rfl
       have hfz9_0 := blk_frozen BK401.out 0
       have hfz9_1 := blk_frozen BK401.out 1
       have hfz9_2 := blk_frozen BK401.out 2
       have hfz9_3 := blk_frozen BK401.out 3
       have hfz9_4 := blk_frozen BK401.out 4
       have p402 : 0 ≤ (x8_1 : Int) := of_decide_eq_true (by first | (with_reducible assumption) | assumption)
       have q402 : x8_1 < (l0.length : Int) := of_decide_eq_true (by first | (with_reducible assumption) | assumption)
       obtain ⟨ad402, e402, hx402_0, hx402_1, hx402_2, hx402_3, hx402_4⟩ := at_T45 HR0.out x8_1 p402 q402
       cases e402
       replace hx402_0 := (HB.out.cell (World.block_lt_of_cell? w _ hx402_0)).trans hx402_0
       replace hx402_1 := (HB.out.cell (World.block_lt_of_cell? w _ hx402_1)).trans hx402_1
       replace hx402_2 := (HB.out.cell (World.block_lt_of_cell? w _ hx402_2)).trans hx402_2
       replace hx402_3 := (HB.out.cell (World.block_lt_of_cell? w _ hx402_3)).trans hx402_3
       replace hx402_4 := (HB.out.cell (World.block_lt_of_cell? w _ hx402_4)).trans hx402_4
       replace p402 := eq_true p402
       replace q402 := eq_true q402
       go_wp2
       repeat (go_quiet (fail); try go_wp2)
       go_roundg k1
       case measure => have := HK1.out; omega
       case rel => exact ⟨(wrap64 (x8_1 + 1)), (by first | rfl | (simp; done) | (simp [*]; done)), H', ⟨by have := HK1.out; omega⟩, ⟨by (with_reducible repeat (first | refine blk_drewN ?_ _ | refine blk_drew ?_ | refine blk_alloc ?_ _)); exact BK401.out⟩, ⟨by repeat (first | (with_reducible first | exact HB.out | apply below_alloc | apply pw_below_drewN | apply below_drew1 | refine below_set ?_ GE401.out) | exact HB.out)⟩⟩
     ·rw [if_neg c6] at H
      exact absurd H (by simp)
    ·rw [if_neg c5] at H
     exact absurd H (by simp)
   ·rw [if_neg c4] at H
    have c4b0 : decide (x8_1 < (l0.length : Int)) = false := decide_eq_false c4
    clear c4
    obtain rfl := Option.some.inj H
    go_wp2
    repeat (go_quiet (fail); try go_wp2)
    go_ret
    exact ⟨by first | rfl | (simp [errW_none, errW_some] <;> rfl) | (simp [*, errW_none, errW_some] <;> rfl), by repeat (first | (with_reducible first | exact HB.out | apply below_alloc | apply pw_below_drewN | apply below_drew1 | refine below_set ?_ GE401.out) | exact HB.out)⟩

/-! ### impl_Expr_80: function 80 -/
def impl_Expr_80.f (k : Nat) (l0 : List (S45)) (a1_0 : Int) (a1_1 : Int) (a1_2 : Int) (a1_3 : Int) (a1_4 : Int) : Option (Bool) := (impl_Expr_109.f k l0 a1_0 a1_1 a1_2 a1_3 a1_4).bind fun t404 => (some (decide (t404 ≥ 0)))
theorem impl_Expr_80.mono : ∀ a0 a1 a2 a3 a4 a5 k, LeO (impl_Expr_80.f k a0 a1 a2 a3 a4 a5) (impl_Expr_80.f (k + 1) a0 a1 a2 a3 a4 a5) := by
 intro a0 a1 a2 a3 a4 a5 k
 unfold impl_Expr_80.f
 repeat' first
   | (with_reducible exact impl_Expr_109.mono _ _ _ _ _ _ _)
   | (with_reducible exact LeO.refl _)
   | (with_reducible exact LeO.none _)
   | (with_reducible refine LeO.ite ?_ ?_)
   | (with_reducible refine LeO.bind ?_ (fun _ => ?_))
   | exact impl_Expr_109.mono _ _ _ _ _ _ _
   | exact LeO.none _
   | refine LeO.ite ?_ ?_
   | refine LeO.bind ?_ (fun _ => ?_)
set_option maxHeartbeats 8000000 in
set_option maxRecDepth 100000 in
theorem impl_Expr_80.calls (k : Nat) (A0 : Option Addr) (c0 : Nat) (l0 : List (S45)) (a1_0 : Int) (a1_1 : Int) (a1_2 : Int) (a1_3 : Int) (a1_4 : Int) (r : Bool) (w : World) (hr0 : Kd.C k45 w A0 l0.length l0) (hc0 : l0.length ≤ c0) (h : impl_Expr_80.f k l0 a1_0 a1_1 a1_2 a1_3 a1_4 = some r) :
  Calls Try.prog 80 #[.slice A0 l0.length c0, .agg #[.int .i64 a1_0, .int .i64 a1_1, .int .i64 a1_2, .int .i64 a1_3, .int .i64 a1_4]] w fun e w' => e = .returned (.bool r) ∧ Below w.heap.size w w' := by
 have hu45 := Try.underlying45
 have HR0 := Aside0.mk hr0
 have HC0 := Aside0.mk hc0
 clear hr0 hc0
 have HB := Aside0.mk (Below.refl w.heap.size w)
 have H : ((impl_Expr_109.f k l0 a1_0 a1_1 a1_2 a1_3 a1_4).bind fun t404 => (some (decide (t404 ≥ 0)))) = some r := h
 clear h
 replace H := Option.bind_eq_some_iff.mp H
 obtain ⟨t404, A30, H⟩ := H
 replace H : (some (decide (t404 ≥ 0))) = some r := H
 have A3 := Aside0.mk A30
 clear A30
 obtain rfl := Option.some.inj H
 go_enter Try.func80, Try.ntmps80
 go_wp2_with (first | ((with_reducible refine gate_dst (N := 3) rfl ?_); refine box_event ?hg (N := 3) ?hd (cs := #[.int .i64 a1_0, .int .i64 a1_1, .int .i64 a1_2, .int .i64 a1_3, .int .i64 a1_4]) (t := 45) ?hr ?_; (case hd => rfl); (case hg => rfl); (case hr => first | (go_simp; done) | (go_simp; rfl)); intro gb403 hg w4 hbox hb; have n_ := boxed (bel HB.out) hb hbox hg; clear HB hb hbox hg; obtain ⟨HB, BK403, GW403, GE403⟩ := n_; obtain ⟨hcz5_0, hcz5_1, hcz5_2, hcz5_3, hcz5_4⟩ := cells5 BK403.out) | ((with_reducible refine gate_callee (f := 109) rfl ?_); refine goesL_ (some 7) rfl rfl Try.func109 (by kernel_rfl) rfl #[.slice A0 l0.length c0, .agg #[.int .i64 a1_0, .int .i64 a1_1, .int .i64 a1_2, .int .i64 a1_3, .int .i64 a1_4]] rfl (by (try simp only [List.map_toArray, List.map_cons, List.map_nil]); first | done | rfl | (simp only [List.length_drop, List.length_take]; rfl)) ?_; (with_reducible refine (impl_Expr_109.calls k _ _ l0 a1_0 a1_1 a1_2 a1_3 a1_4 t404 _ ?side1 ?side2 A3.out).mono ?_); (case side1 => repeat (first | exact (Kd.C_below HR0.out HB.out) | (with_reducible refine Kd.C_alloc ?_ _) | (with_reducible refine Kd.C_drewN ?_ _) | (with_reducible refine Kd.C_drew ?_))); (case side2 => exact HC0.out); rintro e w6 ⟨rfl, hb⟩; refine ⟨_, rfl, ?_⟩; have n0_ := Aside0.mk (blk_below (g := gb403) (o := .cells #[.int .i64 a1_0, .int .i64 a1_1, .int .i64 a1_2, .int .i64 a1_3, .int .i64 a1_4] 45 (0, 0)) (by (with_reducible repeat (first | refine blk_drewN ?_ _ | refine blk_drew ?_ | refine blk_alloc ?_ _)); exact BK403.out) hb); have n1_ := Aside0.mk (below_step (by repeat (first | (with_reducible first | exact HB.out | apply below_alloc | apply pw_below_drewN | apply below_drew1 | refine below_set ?_ GE403.out) | exact HB.out)) hb); clear BK403; clear HB; have BK403 := n0_; have HB := n1_; clear n0_ n1_; (try clear hb); (try clear hb2); (try clear hk); (try clear hi)))
 go_ret
 exact ⟨by first | rfl | (simp [errW_none, errW_some] <;> rfl) | (simp [*, errW_none, errW_some] <;> rfl), by repeat (first | (with_reducible first | exact HB.out | apply below_alloc | apply pw_below_drewN | apply below_drew1 | refine below_set ?_ GE403.out) | exact HB.out)⟩

/-! ### impl_ExprList: function 32 -/
def impl_ExprList.l0 : Nat → List (S45) → List (S68) → Int → Int → Option ((List (S45)))
 | 0, _, _, _, _ => none
 | k + 1, x3, x12, x13, x14 => if x14 < x13 then (if 0 ≤ x14 then (if x14 < (x12.length : Int) then ((impl_Step_expr.f ((rd_T68 x12 x14).f0) ((rd_T68 x12 x14).f1) ((rd_T68 x12 x14).f2) ((rd_T68 x12 x14).f3.f0) ((rd_T68 x12 x14).f3.f1) ((rd_T68 x12 x14).f4.f0) ((rd_T68 x12 x14).f4.f1) ((rd_T68 x12 x14).f5)).bind fun bt409 => (if bt409.2.2.2.2.2 = true then ((impl_Expr_80.f k x3 bt409.1 bt409.2.1 bt409.2.2.1 bt409.2.2.2.1 bt409.2.2.2.2.1).bind fun t416 => (if t416 = true then (impl_ExprList.l0 k x3 x12 x13 (wrap64 (x14 + 1))) else (if x3.length < 3518437208883 then (impl_ExprList.l0 k (x3 ++ [(⟨bt409.1, (⟨bt409.2.1, bt409.2.2.1⟩ : S43), (⟨bt409.2.2.2.1, bt409.2.2.2.2.1⟩ : S43)⟩ : S45)]) x12 x13 (wrap64 (x14 + 1))) else (none)))) else (impl_ExprList.l0 k x3 x12 x13 (wrap64 (x14 + 1))))) else (none)) else (none)) else (some x3)
def impl_ExprList.f (k : Nat) (l0_0 : List (S68)) : Option ((List (S45))) := (impl_ProgOk.f l0_0).bind fun t406 => (if t406 = true then (impl_ExprList.l0 k ([] : List (S45)) l0_0 (l0_0.length : Int) 0) else (some ([] : List (S45))))
theorem impl_ExprList.mono_l : ∀ k, (∀ y0 y1 y2 y3, LeO (impl_ExprList.l0 k y0 y1 y2 y3) (impl_ExprList.l0 (k + 1) y0 y1 y2 y3))
 | 0 => fun _ _ _ _ r h => by simp [impl_ExprList.l0] at h
 | k + 1 => by
  have ih0 := impl_ExprList.mono_l k
  ·intro y0 y1 y2 y3
   unfold impl_ExprList.l0
   repeat' first
   | (with_reducible exact ih0 _ _ _ _)
   | (with_reducible exact impl_Expr_80.mono _ _ _ _ _ _ _)
   | (with_reducible exact LeO.refl _)
   | (with_reducible exact LeO.none _)
   | (with_reducible refine LeO.ite ?_ ?_)
   | (with_reducible refine LeO.bind ?_ (fun _ => ?_))
   | exact ih0 _ _ _ _
   | exact impl_Expr_80.mono _ _ _ _ _ _ _
   | exact LeO.none _
   | refine LeO.ite ?_ ?_
   | refine LeO.bind ?_ (fun _ => ?_)
theorem impl_ExprList.mono : ∀ a0 k, LeO (impl_ExprList.f k a0) (impl_ExprList.f (k + 1) a0) := by
 intro a0 k
 have ih0 := impl_ExprList.mono_l k
 unfold impl_ExprList.f
 repeat' first
   | (with_reducible exact ih0 _ _ _ _)
   | (with_reducible exact impl_Expr_80.mono _ _ _ _ _ _ _)
   | (with_reducible exact LeO.refl _)
   | (with_reducible exact LeO.none _)
   | (with_reducible refine LeO.ite ?_ ?_)
   | (with_reducible refine LeO.bind ?_ (fun _ => ?_))
   | exact ih0 _ _ _ _
   | exact impl_Expr_80.mono _ _ _ _ _ _ _
   | exact LeO.none _
   | refine LeO.ite ?_ ?_
   | refine LeO.bind ?_ (fun _ => ?_)
set_option maxHeartbeats 8000000 in
set_option maxRecDepth 100000 in
theorem impl_ExprList.calls (k : Nat) (A0_0 : Option Addr) (c0_0 : Nat) (l0_0 : List (S68)) (r : List (S45)) (w : World) (hr0_0 : Kd.C k68 w A0_0 l0_0.length l0_0) (hc0_0 : l0_0.length ≤ c0_0) (h : impl_ExprList.f k l0_0 = some r) :
  Calls Try.prog 32 #[.agg #[.slice A0_0 l0_0.length c0_0]] w fun e w' => ∃ v0_ : Value, e = .returned (v0_) ∧ Kd.R k45 45 w' w.heap.size (fun _ => True) v0_ r ∧ Below w.heap.size w w' := by
 have hu29 := Try.underlying29
 have hu68 := Try.underlying68
 have hu45 := Try.underlying45
 have HR0_0 := Aside0.mk hr0_0
 have HC0_0 := Aside0.mk hc0_0
 clear hr0_0 hc0_0
 have HB := Aside0.mk (Below.refl w.heap.size w)
 have H : ((impl_ProgOk.f l0_0).bind fun t406 => (if t406 = true then (impl_ExprList.l0 k ([] : List (S45)) l0_0 (l0_0.length : Int) 0) else (some ([] : List (S45))))) = some r := h
 clear h
 replace H := Option.bind_eq_some_iff.mp H
 obtain ⟨t406, A20, H⟩ := H
 replace H : (if t406 = true then (impl_ExprList.l0 k ([] : List (S45)) l0_0 (l0_0.length : Int) 0) else (some ([] : List (S45)))) = some r := H
 have A2 := Aside0.mk A20
 clear A20
 by_cases c3 : t406 = true
 ·subst c3
  have H1 : (impl_ExprList.l0 k ([] : List (S45)) l0_0 (l0_0.length : Int) 0) = some r := by rw [if_pos rfl] at H; exact H
  clear H
  have H := H1
  clear H1
  have H' := Aside0.mk H
  clear H
  go_enter Try.func32, Try.ntmps32
  go_wp2_with (first | ((with_reducible refine gate_dst (N := 1) rfl ?_); refine box_event ?hg (N := 1) ?hd (cs := #[.slice A0_0 l0_0.length c0_0]) (t := 29) ?hr ?_; (case hd => rfl); (case hg => rfl); (case hr => first | (go_simp; done) | (go_simp; rfl)); intro gb405 hg w4 hbox hb; have n_ := boxed (bel HB.out) hb hbox hg; clear HB hb hbox hg; obtain ⟨HB, BK405, GW405, GE405⟩ := n_; have hcz5_0 : w4.cell? ⟨gb405, 0, none⟩ = some (.slice A0_0 l0_0.length c0_0) := (blk_cell BK405.out 0).trans rfl; have hfz5_0 := blk_frozen BK405.out 0) | ((with_reducible refine gate_callee (f := 63) rfl ?_); refine goesL_ (some 9) rfl rfl Try.func63 (by kernel_rfl) rfl #[.agg #[.slice A0_0 l0_0.length c0_0]] rfl (by (try simp only [List.map_toArray, List.map_cons, List.map_nil]); first | done | rfl | (simp only [List.length_drop, List.length_take]; rfl)) ?_; (with_reducible refine (impl_ProgOk.calls _ _ l0_0 true _ ?side1 ?side2 A2.out).mono ?_); (case side1 => repeat (first | exact (Kd.C_below HR0_0.out HB.out) | (with_reducible refine Kd.C_alloc ?_ _) | (with_reducible refine Kd.C_drewN ?_ _) | (with_reducible refine Kd.C_drew ?_))); (case side2 => exact HC0_0.out); rintro e w6 ⟨rfl, hb⟩; refine ⟨_, rfl, ?_⟩; have n0_ := Aside0.mk (blk_below (g := gb405) (o := .cells #[.slice A0_0 l0_0.length c0_0] 29 (0, 0)) (by (with_reducible repeat (first | refine blk_drewN ?_ _ | refine blk_drew ?_ | refine blk_alloc ?_ _)); exact BK405.out) hb); have n1_ := Aside0.mk (below_step (by repeat (first | (with_reducible first | exact HB.out | apply below_alloc | apply pw_below_drewN | apply below_drew1 | refine below_set ?_ GE405.out) | exact HB.out)) hb); clear BK405; clear HB; have BK405 := n0_; have HB := n1_; clear n0_ n1_; (try clear hb); (try clear hb2); (try clear hk); (try clear hi); have hcz7_0 : w6.cell? ⟨gb405, 0, none⟩ = some (.slice A0_0 l0_0.length c0_0) := (blk_cell BK405.out 0).trans rfl; have hfz7_0 := blk_frozen BK405.out 0))
  go_loopg [3, 14] k (fun kq v3 v14 w' => ∃ (x3_1 : List (S45)) (x14_1 : Int), v14 = .int .i64 x14_1 ∧ Aside0 (impl_ExprList.l0 kq x3_1 l0_0 (l0_0.length : Int) x14_1 = some r) ∧ Aside0 (kq ≤ k) ∧ Aside0 (Kd.R k45 45 w' w.heap.size (fun _ => True) v3 x3_1) ∧ Aside0 (w'.heap[gb405]? = some (.cells #[(.slice A0_0 l0_0.length c0_0)] 29 (0, 0))) ∧ Aside0 (Below w.heap.size w w'))
  case atStart => exact ⟨(([] : List (S45))), (0), (by first | rfl | (simp; done) | (simp [*]; done)), H', ⟨Nat.le_refl _⟩, ⟨by first | exact Kd.R_nil _ _ _ _ _ | exact Kd.N_nil _ _ _ _ _ | exact Kd.V_nil _ _ _ _ _ | exact Kd.Q_nil _ _ _ _ _ | exact Kd.S_nil _ _ _ _ _⟩, ⟨by (with_reducible repeat (first | refine blk_drewN ?_ _ | refine blk_drew ?_ | refine blk_alloc ?_ _)); exact BK405.out⟩, ⟨by repeat (first | (with_reducible first | exact HB.out | apply below_alloc | apply pw_below_drewN | apply below_drew1 | refine below_set ?_ GE405.out) | exact HB.out)⟩⟩
  case round =>
   clear H'
   try clear p2
   try clear c3
   try clear c6
   try clear hcz5_0
   try clear hcz7_0
   try clear hfz5_0
   try clear hfz7_0
   obtain ⟨x3_1, x14_1, rfl, HA, HK1, HO_3, BK405, HB⟩ := hrel
   cases gk with
   | zero => exact absurd HA.out (by simp [impl_ExprList.l0])
   | succ k1 =>
    have H := HA.out
    clear HA
    simp only [impl_ExprList.l0] at H
    by_cases c8 : x14_1 < (l0_0.length : Int)
    ·rw [if_pos c8] at H
     have c8b0 : decide (x14_1 < (l0_0.length : Int)) = true := decide_eq_true c8
     clear c8
     by_cases c9 : 0 ≤ x14_1
     ·rw [if_pos c9] at H
      have c9b0 : decide (0 ≤ x14_1) = true := decide_eq_true c9
      clear c9
      by_cases c10 : x14_1 < (l0_0.length : Int)
      ·rw [if_pos c10] at H
       have c10b0 : decide (x14_1 < (l0_0.length : Int)) = true := decide_eq_true c10
       clear c10
       replace H := Option.bind_eq_some_iff.mp H
       obtain ⟨⟨t409, t410, t411, t412, t413, t414⟩, A110, H⟩ := H
       replace H : (if t414 = true then ((impl_Expr_80.f k1 x3_1 t409 t410 t411 t412 t413).bind fun t416 => (if t416 = true then (impl_ExprList.l0 k1 x3_1 l0_0 (l0_0.length : Int) (wrap64 (x14_1 + 1))) else (if x3_1.length < 3518437208883 then (impl_ExprList.l0 k1 (x3_1 ++ [(⟨t409, (⟨t410, t411⟩ : S43), (⟨t412, t413⟩ : S43)⟩ : S45)]) l0_0 (l0_0.length : Int) (wrap64 (x14_1 + 1))) else (none)))) else (impl_ExprList.l0 k1 x3_1 l0_0 (l0_0.length : Int) (wrap64 (x14_1 + 1)))) = some r := H
       have A11 := Aside0.mk A110
       clear A110
       by_cases c12 : t414 = true
       ·subst c12
        have H1 : ((impl_Expr_80.f k1 x3_1 t409 t410 t411 t412 t413).bind fun t416 => (if t416 = true then (impl_ExprList.l0 k1 x3_1 l0_0 (l0_0.length : Int) (wrap64 (x14_1 + 1))) else (if x3_1.length < 3518437208883 then (impl_ExprList.l0 k1 (x3_1 ++ [(⟨t409, (⟨t410, t411⟩ : S43), (⟨t412, t413⟩ : S43)⟩ : S45)]) l0_0 (l0_0.length : Int) (wrap64 (x14_1 + 1))) else (none)))) = some r := by rw [if_pos rfl] at H; exact H
        clear H
        have H := H1
        clear H1
        replace H := Option.bind_eq_some_iff.mp H
        obtain ⟨t416, A130, H⟩ := H
        replace H : (if t416 = true then (impl_ExprList.l0 k1 x3_1 l0_0 (l0_0.length : Int) (wrap64 (x14_1 + 1))) else (if x3_1.length < 3518437208883 then (impl_ExprList.l0 k1 (x3_1 ++ [(⟨t409, (⟨t410, t411⟩ : S43), (⟨t412, t413⟩ : S43)⟩ : S45)]) l0_0 (l0_0.length : Int) (wrap64 (x14_1 + 1))) else (none))) = some r := H
        have A13 := Aside0.mk A130
        clear A130
        by_cases c14 : t416 = true
        ·subst c14
         have H1 : (impl_ExprList.l0 k1 x3_1 l0_0 (l0_0.length : Int) (wrap64 (x14_1 + 1))) = some r := by rw [if_pos rfl] at H; exact H
         clear H
         have H := H1
         clear H1
         have H' := Aside0.mk H
         clear H
         have p407 : 0 ≤ (x14_1 : Int) := of_decide_eq_true (by first | (with_reducible assumption) | assumption)
         have q407 : x14_1 < (l0_0.length : Int) := of_decide_eq_true (by first | (with_reducible assumption) | assumption)
         obtain ⟨ad407, A407_7, c407_7, e407, hx407_0, hx407_1, hx407_2, hx407_3, hx407_4, hx407_5, hx407_6, hx407_7, hl407_7, hi407_7⟩ := at_T68 HR0_0.out x14_1 p407 q407
         cases e407
         replace hx407_0 := (HB.out.cell (World.block_lt_of_cell? w _ hx407_0)).trans hx407_0
         replace hx407_1 := (HB.out.cell (World.block_lt_of_cell? w _ hx407_1)).trans hx407_1
         replace hx407_2 := (HB.out.cell (World.block_lt_of_cell? w _ hx407_2)).trans hx407_2
         replace hx407_3 := (HB.out.cell (World.block_lt_of_cell? w _ hx407_3)).trans hx407_3
         replace hx407_4 := (HB.out.cell (World.block_lt_of_cell? w _ hx407_4)).trans hx407_4
         replace hx407_5 := (HB.out.cell (World.block_lt_of_cell? w _ hx407_5)).trans hx407_5
         replace hx407_6 := (HB.out.cell (World.block_lt_of_cell? w _ hx407_6)).trans hx407_6
         replace hx407_7 := (HB.out.cell (World.block_lt_of_cell? w _ hx407_7)).trans hx407_7
         have HR407_7 := Aside0.mk hi407_7
         have HC407_7 := Aside0.mk hl407_7
         clear hi407_7 hl407_7
         replace p407 := eq_true p407
         replace q407 := eq_true q407
         go_wp2_with (first | ((with_reducible refine gate_dst (N := 5) rfl ?_); refine box_event ?hg (N := 5) ?hd (cs := #[.int .i64 0, .int .i64 0, .int .i64 0, .int .i64 0, .int .i64 0, .int .i64 0, .int .i64 0, .slice none 0 0]) (t := 68) ?hr ?_; (case hd => rfl); (case hg => rfl); (case hr => first | (go_simp; done) | (go_simp; rfl)); intro gb408 hg w15 hbox hb; have n0_ := Aside0.mk (Kd.R_below (by (with_reducible repeat (first | apply Kd.R_alloc | apply Kd.R_drewN | apply Kd.R_drew)); exact HO_3.out) hb); have n1_ := Aside0.mk (blk_below (g := gb405) (o := .cells #[.slice (some ad407) l0_0.length c0_0] 29 (0, 0)) (by (with_reducible repeat (first | refine blk_drewN ?_ _ | refine blk_drew ?_ | refine blk_alloc ?_ _)); exact BK405.out) hb); have n2_ := Aside0.mk (below_step (by repeat (first | (with_reducible first | exact HB.out | apply below_alloc | apply pw_below_drewN | apply below_drew1 | refine below_set ?_ GE405.out) | exact HB.out)) hb); have n3_ := Aside0.mk (hbox); have n4_ := Aside0.mk ((by rw [hg]; exact (below_size (by repeat (first | (with_reducible first | exact HB.out | apply below_alloc | apply pw_below_drewN | apply below_drew1 | refine below_set ?_ GE405.out) | exact HB.out))) : w.heap.size ≤ gb408)); have n5_ := Aside0.mk ((by rw [hg]; exact (below_size (by repeat (first | (with_reducible first | exact HB.out | apply below_alloc | apply pw_below_drewN | apply below_drew1 | refine below_set ?_ GE405.out) | exact HB.out))) : w.heap.size ≤ gb408)); have n6_ := Aside0.mk ((by rw [hg]; exact Nat.ne_of_lt (blk_lt (g := gb405) (o := .cells #[.slice (some ad407) l0_0.length c0_0] 29 (0, 0)) (by (with_reducible repeat (first | refine blk_drewN ?_ _ | refine blk_drew ?_ | refine blk_alloc ?_ _)); exact BK405.out)) : gb405 ≠ gb408)); have n7_ := Aside0.mk ((by rw [hg]; exact Nat.ne_of_gt (blk_lt (g := gb405) (o := .cells #[.slice (some ad407) l0_0.length c0_0] 29 (0, 0)) (by (with_reducible repeat (first | refine blk_drewN ?_ _ | refine blk_drew ?_ | refine blk_alloc ?_ _)); exact BK405.out)) : gb408 ≠ gb405)); clear HO_3; clear BK405; clear HB; have HO_3 := n0_; have BK405 := n1_; have HB := n2_; have BK408 := n3_; have GW408 := n4_; have GE408 := n5_; have NB405_408 := n6_; have NB408_405 := n7_; clear n0_ n1_ n2_ n3_ n4_ n5_ n6_ n7_; clear hb hbox hg; have hnb16 := NB408_405.out; have hnc16 := NB405_408.out; obtain ⟨hcz17_0, hcz17_1, hcz17_2, hcz17_3, hcz17_4, hcz17_5, hcz17_6, hcz17_7⟩ := cells8 BK408.out; have hfz17_0 := blk_frozen BK408.out 0; have hfz17_1 := blk_frozen BK408.out 1; have hfz17_2 := blk_frozen BK408.out 2; have hfz17_3 := blk_frozen BK408.out 3; have hfz17_4 := blk_frozen BK408.out 4; have hfz17_5 := blk_frozen BK408.out 5; have hfz17_6 := blk_frozen BK408.out 6; have hfz17_7 := blk_frozen BK408.out 7) | ((with_reducible refine gate_callee (f := 79) rfl ?_); refine goesL_ (some 20) rfl rfl Try.func79 (by kernel_rfl) rfl #[.agg #[.int .i64 ((rd_T68 l0_0 x14_1).f0), .int .i64 ((rd_T68 l0_0 x14_1).f1), .int .i64 ((rd_T68 l0_0 x14_1).f2), .int .i64 ((rd_T68 l0_0 x14_1).f3.f0), .int .i64 ((rd_T68 l0_0 x14_1).f3.f1), .int .i64 ((rd_T68 l0_0 x14_1).f4.f0), .int .i64 ((rd_T68 l0_0 x14_1).f4.f1), .slice A407_7 ((rd_T68 l0_0 x14_1).f5).length c407_7]] rfl (by (try simp only [List.map_toArray, List.map_cons, List.map_nil]); first | done | rfl | (simp only [List.length_drop, List.length_take]; rfl)) ?_; (with_reducible refine (impl_Step_expr.calls ((rd_T68 l0_0 x14_1).f0) ((rd_T68 l0_0 x14_1).f1) ((rd_T68 l0_0 x14_1).f2) ((rd_T68 l0_0 x14_1).f3.f0) ((rd_T68 l0_0 x14_1).f3.f1) ((rd_T68 l0_0 x14_1).f4.f0) ((rd_T68 l0_0 x14_1).f4.f1) _ _ ((rd_T68 l0_0 x14_1).f5) t409 t410 t411 t412 t413 true _ ?side1 ?side2 A11.out).mono ?_); (case side1 => exact Kd.C_below HR407_7.out (by repeat (first | (with_reducible first | exact HB.out | apply below_alloc | apply pw_below_drewN | apply below_drew1 | refine below_set ?_ GE405.out | refine below_set ?_ GE408.out) | exact HB.out))); (case side2 => exact HC407_7.out); rintro e w18 ⟨rfl, hb⟩; refine ⟨_, rfl, ?_⟩; have n0_ := Aside0.mk (Kd.R_below (by (with_reducible repeat (first | apply Kd.R_alloc | apply Kd.R_drewN | apply Kd.R_drew)); exact (Kd.R_mono (Kd.R_far (p := ⟨gb408, 7, none⟩) (Kd.R_far (p := ⟨gb408, 6, none⟩) (Kd.R_far (p := ⟨gb408, 5, none⟩) (Kd.R_far (p := ⟨gb408, 4, none⟩) (Kd.R_far (p := ⟨gb408, 3, none⟩) (Kd.R_far (p := ⟨gb408, 2, none⟩) (Kd.R_far (p := ⟨gb408, 1, none⟩) (Kd.R_far (p := ⟨gb408, 0, none⟩) (Kd.R_types HO_3.out BK408.out (by decide)) (fun _ hk => hk.2) (.int .i64 ((rd_T68 l0_0 x14_1).f0))) (fun _ hk => hk.2) (.int .i64 ((rd_T68 l0_0 x14_1).f1))) (fun _ hk => hk.2) (.int .i64 ((rd_T68 l0_0 x14_1).f2))) (fun _ hk => hk.2) (.int .i64 ((rd_T68 l0_0 x14_1).f3.f0))) (fun _ hk => hk.2) (.int .i64 ((rd_T68 l0_0 x14_1).f3.f1))) (fun _ hk => hk.2) (.int .i64 ((rd_T68 l0_0 x14_1).f4.f0))) (fun _ hk => hk.2) (.int .i64 ((rd_T68 l0_0 x14_1).f4.f1))) (fun _ hk => hk.2) (.slice A407_7 ((rd_T68 l0_0 x14_1).f5).length c407_7)) (fun _ h_ => h_.1))) hb); have n1_ := Aside0.mk (blk_below (g := gb405) (o := .cells #[.slice (some ad407) l0_0.length c0_0] 29 (0, 0)) (by (with_reducible repeat (first | refine blk_drewN ?_ _ | refine blk_drew ?_ | refine blk_alloc ?_ _)); refine blk_far ?_ NB405_408.out _; (with_reducible repeat (first | refine blk_drewN ?_ _ | refine blk_drew ?_ | refine blk_alloc ?_ _)); refine blk_far ?_ NB405_408.out _; (with_reducible repeat (first | refine blk_drewN ?_ _ | refine blk_drew ?_ | refine blk_alloc ?_ _)); refine blk_far ?_ NB405_408.out _; (with_reducible repeat (first | refine blk_drewN ?_ _ | refine blk_drew ?_ | refine blk_alloc ?_ _)); refine blk_far ?_ NB405_408.out _; (with_reducible repeat (first | refine blk_drewN ?_ _ | refine blk_drew ?_ | refine blk_alloc ?_ _)); refine blk_far ?_ NB405_408.out _; (with_reducible repeat (first | refine blk_drewN ?_ _ | refine blk_drew ?_ | refine blk_alloc ?_ _)); refine blk_far ?_ NB405_408.out _; (with_reducible repeat (first | refine blk_drewN ?_ _ | refine blk_drew ?_ | refine blk_alloc ?_ _)); refine blk_far ?_ NB405_408.out _; (with_reducible repeat (first | refine blk_drewN ?_ _ | refine blk_drew ?_ | refine blk_alloc ?_ _)); refine blk_far ?_ NB405_408.out _; (with_reducible repeat (first | refine blk_drewN ?_ _ | refine blk_drew ?_ | refine blk_alloc ?_ _)); exact BK405.out) hb); have n2_ := Aside0.mk (blk_below (g := gb408) (o := .cells #[.int .i64 ((rd_T68 l0_0 x14_1).f0), .int .i64 ((rd_T68 l0_0 x14_1).f1), .int .i64 ((rd_T68 l0_0 x14_1).f2), .int .i64 ((rd_T68 l0_0 x14_1).f3.f0), .int .i64 ((rd_T68 l0_0 x14_1).f3.f1), .int .i64 ((rd_T68 l0_0 x14_1).f4.f0), .int .i64 ((rd_T68 l0_0 x14_1).f4.f1), .slice A407_7 ((rd_T68 l0_0 x14_1).f5).length c407_7] 68 (0, 0)) (by (with_reducible repeat (first | refine blk_drewN ?_ _ | refine blk_drew ?_ | refine blk_alloc ?_ _)); refine blk_put (cs := #[.int .i64 ((rd_T68 l0_0 x14_1).f0), .int .i64 ((rd_T68 l0_0 x14_1).f1), .int .i64 ((rd_T68 l0_0 x14_1).f2), .int .i64 ((rd_T68 l0_0 x14_1).f3.f0), .int .i64 ((rd_T68 l0_0 x14_1).f3.f1), .int .i64 ((rd_T68 l0_0 x14_1).f4.f0), .int .i64 ((rd_T68 l0_0 x14_1).f4.f1), .slice none 0 0]) ?_ 7 _ rfl; (with_reducible repeat (first | refine blk_drewN ?_ _ | refine blk_drew ?_ | refine blk_alloc ?_ _)); refine blk_put (cs := #[.int .i64 ((rd_T68 l0_0 x14_1).f0), .int .i64 ((rd_T68 l0_0 x14_1).f1), .int .i64 ((rd_T68 l0_0 x14_1).f2), .int .i64 ((rd_T68 l0_0 x14_1).f3.f0), .int .i64 ((rd_T68 l0_0 x14_1).f3.f1), .int .i64 ((rd_T68 l0_0 x14_1).f4.f0), .int .i64 0, .slice none 0 0]) ?_ 6 _ rfl; (with_reducible repeat (first | refine blk_drewN ?_ _ | refine blk_drew ?_ | refine blk_alloc ?_ _)); refine blk_put (cs := #[.int .i64 ((rd_T68 l0_0 x14_1).f0), .int .i64 ((rd_T68 l0_0 x14_1).f1), .int .i64 ((rd_T68 l0_0 x14_1).f2), .int .i64 ((rd_T68 l0_0 x14_1).f3.f0), .int .i64 ((rd_T68 l0_0 x14_1).f3.f1), .int .i64 0, .int .i64 0, .slice none 0 0]) ?_ 5 _ rfl; (with_reducible repeat (first | refine blk_drewN ?_ _ | refine blk_drew ?_ | refine blk_alloc ?_ _)); refine blk_put (cs := #[.int .i64 ((rd_T68 l0_0 x14_1).f0), .int .i64 ((rd_T68 l0_0 x14_1).f1), .int .i64 ((rd_T68 l0_0 x14_1).f2), .int .i64 ((rd_T68 l0_0 x14_1).f3.f0), .int .i64 0, .int .i64 0, .int .i64 0, .slice none 0 0]) ?_ 4 _ rfl; (with_reducible repeat (first | refine blk_drewN ?_ _ | refine blk_drew ?_ | refine blk_alloc ?_ _)); refine blk_put (cs := #[.int .i64 ((rd_T68 l0_0 x14_1).f0), .int .i64 ((rd_T68 l0_0 x14_1).f1), .int .i64 ((rd_T68 l0_0 x14_1).f2), .int .i64 0, .int .i64 0, .int .i64 0, .int .i64 0, .slice none 0 0]) ?_ 3 _ rfl; (with_reducible repeat (first | refine blk_drewN ?_ _ | refine blk_drew ?_ | refine blk_alloc ?_ _)); refine blk_put (cs := #[.int .i64 ((rd_T68 l0_0 x14_1).f0), .int .i64 ((rd_T68 l0_0 x14_1).f1), .int .i64 0, .int .i64 0, .int .i64 0, .int .i64 0, .int .i64 0, .slice none 0 0]) ?_ 2 _ rfl; (with_reducible repeat (first | refine blk_drewN ?_ _ | refine blk_drew ?_ | refine blk_alloc ?_ _)); refine blk_put (cs := #[.int .i64 ((rd_T68 l0_0 x14_1).f0), .int .i64 0, .int .i64 0, .int .i64 0, .int .i64 0, .int .i64 0, .int .i64 0, .slice none 0 0]) ?_ 1 _ rfl; (with_reducible repeat (first | refine blk_drewN ?_ _ | refine blk_drew ?_ | refine blk_alloc ?_ _)); refine blk_put (cs := #[.int .i64 0, .int .i64 0, .int .i64 0, .int .i64 0, .int .i64 0, .int .i64 0, .int .i64 0, .slice none 0 0]) ?_ 0 _ rfl; (with_reducible repeat (first | refine blk_drewN ?_ _ | refine blk_drew ?_ | refine blk_alloc ?_ _)); exact BK408.out) hb); have n3_ := Aside0.mk (below_step (by repeat (first | (with_reducible first | exact HB.out | apply below_alloc | apply pw_below_drewN | apply below_drew1 | refine below_set ?_ GE405.out | refine below_set ?_ GE408.out) | exact HB.out)) hb); clear HO_3; clear BK405; clear BK408; clear HB; have HO_3 := n0_; have BK405 := n1_; have BK408 := n2_; have HB := n3_; clear n0_ n1_ n2_ n3_; (try clear hb); (try clear hb2); (try clear hk); (try clear hi)) | ((with_reducible refine gate_dst (N := 6) rfl ?_); refine box_event ?hg (N := 6) ?hd (cs := #[.int .i64 0, .int .i64 0, .int .i64 0, .int .i64 0, .int .i64 0]) (t := 45) ?hr ?_; (case hd => rfl); (case hg => rfl); (case hr => first | (go_simp; done) | (go_simp; rfl)); intro gb415 hg w19 hbox hb; have n0_ := Aside0.mk (Kd.R_below (Kd.R_elderB (by (with_reducible repeat (first | apply Kd.R_alloc | apply Kd.R_drewN | apply Kd.R_drew)); exact HO_3.out) gb415 (Nat.le_of_eq hg.symm)) hb); have n1_ := Aside0.mk (blk_below (g := gb405) (o := .cells #[.slice (some ad407) l0_0.length c0_0] 29 (0, 0)) (by (with_reducible repeat (first | refine blk_drewN ?_ _ | refine blk_drew ?_ | refine blk_alloc ?_ _)); exact BK405.out) hb); have n2_ := Aside0.mk (blk_below (g := gb408) (o := .cells #[.int .i64 ((rd_T68 l0_0 x14_1).f0), .int .i64 ((rd_T68 l0_0 x14_1).f1), .int .i64 ((rd_T68 l0_0 x14_1).f2), .int .i64 ((rd_T68 l0_0 x14_1).f3.f0), .int .i64 ((rd_T68 l0_0 x14_1).f3.f1), .int .i64 ((rd_T68 l0_0 x14_1).f4.f0), .int .i64 ((rd_T68 l0_0 x14_1).f4.f1), .slice A407_7 ((rd_T68 l0_0 x14_1).f5).length c407_7] 68 (0, 0)) (by (with_reducible repeat (first | refine blk_drewN ?_ _ | refine blk_drew ?_ | refine blk_alloc ?_ _)); exact BK408.out) hb); have n3_ := Aside0.mk (below_step (by repeat (first | (with_reducible first | exact HB.out | apply below_alloc | apply pw_below_drewN | apply below_drew1 | refine below_set ?_ GE405.out | refine below_set ?_ GE408.out) | exact HB.out)) hb); have n4_ := Aside0.mk (hbox); have n5_ := Aside0.mk ((by rw [hg]; exact (below_size (by repeat (first | (with_reducible first | exact HB.out | apply below_alloc | apply pw_below_drewN | apply below_drew1 | refine below_set ?_ GE405.out | refine below_set ?_ GE408.out) | exact HB.out))) : w.heap.size ≤ gb415)); have n6_ := Aside0.mk ((by rw [hg]; exact (below_size (by repeat (first | (with_reducible first | exact HB.out | apply below_alloc | apply pw_below_drewN | apply below_drew1 | refine below_set ?_ GE405.out | refine below_set ?_ GE408.out) | exact HB.out))) : w.heap.size ≤ gb415)); have n7_ := Aside0.mk ((by rw [hg]; exact Nat.ne_of_lt (blk_lt (g := gb405) (o := .cells #[.slice (some ad407) l0_0.length c0_0] 29 (0, 0)) (by (with_reducible repeat (first | refine blk_drewN ?_ _ | refine blk_drew ?_ | refine blk_alloc ?_ _)); exact BK405.out)) : gb405 ≠ gb415)); have n8_ := Aside0.mk ((by rw [hg]; exact Nat.ne_of_gt (blk_lt (g := gb405) (o := .cells #[.slice (some ad407) l0_0.length c0_0] 29 (0, 0)) (by (with_reducible repeat (first | refine blk_drewN ?_ _ | refine blk_drew ?_ | refine blk_alloc ?_ _)); exact BK405.out)) : gb415 ≠ gb405)); have n9_ := Aside0.mk ((by rw [hg]; exact Nat.ne_of_lt (blk_lt (g := gb408) (o := .cells #[.int .i64 ((rd_T68 l0_0 x14_1).f0), .int .i64 ((rd_T68 l0_0 x14_1).f1), .int .i64 ((rd_T68 l0_0 x14_1).f2), .int .i64 ((rd_T68 l0_0 x14_1).f3.f0), .int .i64 ((rd_T68 l0_0 x14_1).f3.f1), .int .i64 ((rd_T68 l0_0 x14_1).f4.f0), .int .i64 ((rd_T68 l0_0 x14_1).f4.f1), .slice A407_7 ((rd_T68 l0_0 x14_1).f5).length c407_7] 68 (0, 0)) (by (with_reducible repeat (first | refine blk_drewN ?_ _ | refine blk_drew ?_ | refine blk_alloc ?_ _)); exact BK408.out)) : gb408 ≠ gb415)); have n10_ := Aside0.mk ((by rw [hg]; exact Nat.ne_of_gt (blk_lt (g := gb408) (o := .cells #[.int .i64 ((rd_T68 l0_0 x14_1).f0), .int .i64 ((rd_T68 l0_0 x14_1).f1), .int .i64 ((rd_T68 l0_0 x14_1).f2), .int .i64 ((rd_T68 l0_0 x14_1).f3.f0), .int .i64 ((rd_T68 l0_0 x14_1).f3.f1), .int .i64 ((rd_T68 l0_0 x14_1).f4.f0), .int .i64 ((rd_T68 l0_0 x14_1).f4.f1), .slice A407_7 ((rd_T68 l0_0 x14_1).f5).length c407_7] 68 (0, 0)) (by (with_reducible repeat (first | refine blk_drewN ?_ _ | refine blk_drew ?_ | refine blk_alloc ?_ _)); exact BK408.out)) : gb415 ≠ gb408)); clear HO_3; clear BK405; clear BK408; clear HB; have HO_3 := n0_; have BK405 := n1_; have BK408 := n2_; have HB := n3_; have BK415 := n4_; have GW415 := n5_; have GE415 := n6_; have NB405_415 := n7_; have NB415_405 := n8_; have NB408_415 := n9_; have NB415_408 := n10_; clear n0_ n1_ n2_ n3_ n4_ n5_ n6_ n7_ n8_ n9_ n10_; clear hb hbox hg; have hnb20 := NB415_405.out; have hnc20 := NB405_415.out; have hnb21 := NB415_408.out; have hnc21 := NB408_415.out; obtain ⟨hcz22_0, hcz22_1, hcz22_2, hcz22_3, hcz22_4⟩ := cells5 BK415.out; have hfz22_0 := blk_frozen BK415.out 0; have hfz22_1 := blk_frozen BK415.out 1; have hfz22_2 := blk_frozen BK415.out 2; have hfz22_3 := blk_frozen BK415.out 3; have hfz22_4 := blk_frozen BK415.out 4; obtain ⟨Ao23, co23, eo23⟩ := Kd.R_slice HO_3.out; subst eo23) | (go_at_call 80; (with_reducible refine (impl_Expr_80.calls k1 _ _ x3_1 t409 t410 t411 t412 t413 true _ ?side1 ?side2 A13.out).mono ?_); (case side1 => refine (Kd.R_reads' (e := 45) (base := w.heap.size) (ok := fun k_ => (True ∧ k_ ≠ gb415)) (n := x3_1.length) (c := co23) ?_).2.2; exact (by (with_reducible repeat (first | apply Kd.R_alloc | apply Kd.R_drewN | apply Kd.R_drew)); exact (Kd.R_mono (Kd.R_far (p := ⟨gb415, 4, none⟩) (Kd.R_far (p := ⟨gb415, 3, none⟩) (Kd.R_far (p := ⟨gb415, 2, none⟩) (Kd.R_far (p := ⟨gb415, 1, none⟩) (Kd.R_far (p := ⟨gb415, 0, none⟩) (Kd.R_mono HO_3.out (fun k_ hk => (⟨hk, hk.2⟩ : _ ∧ k_ ≠ gb415))) (fun _ hk => hk.2) (.int .i64 t409)) (fun _ hk => hk.2) (.int .i64 t410)) (fun _ hk => hk.2) (.int .i64 t411)) (fun _ hk => hk.2) (.int .i64 t412)) (fun _ hk => hk.2) (.int .i64 t413)) (fun _ h_ => h_.1)))); (case side2 => exact (Kd.R_reads' HO_3.out).2.1); rintro e w24 ⟨rfl, hb⟩; have n0_ := Aside0.mk (Kd.R_below (by (with_reducible repeat (first | apply Kd.R_alloc | apply Kd.R_drewN | apply Kd.R_drew)); exact (Kd.R_mono (Kd.R_far (p := ⟨gb415, 4, none⟩) (Kd.R_far (p := ⟨gb415, 3, none⟩) (Kd.R_far (p := ⟨gb415, 2, none⟩) (Kd.R_far (p := ⟨gb415, 1, none⟩) (Kd.R_far (p := ⟨gb415, 0, none⟩) (Kd.R_mono HO_3.out (fun k_ hk => (⟨hk, hk.2⟩ : _ ∧ k_ ≠ gb415))) (fun _ hk => hk.2) (.int .i64 t409)) (fun _ hk => hk.2) (.int .i64 t410)) (fun _ hk => hk.2) (.int .i64 t411)) (fun _ hk => hk.2) (.int .i64 t412)) (fun _ hk => hk.2) (.int .i64 t413)) (fun _ h_ => h_.1))) hb); have n1_ := Aside0.mk (blk_below (g := gb405) (o := .cells #[.slice (some ad407) l0_0.length c0_0] 29 (0, 0)) (by (with_reducible repeat (first | refine blk_drewN ?_ _ | refine blk_drew ?_ | refine blk_alloc ?_ _)); refine blk_far ?_ NB405_415.out _; (with_reducible repeat (first | refine blk_drewN ?_ _ | refine blk_drew ?_ | refine blk_alloc ?_ _)); refine blk_far ?_ NB405_415.out _; (with_reducible repeat (first | refine blk_drewN ?_ _ | refine blk_drew ?_ | refine blk_alloc ?_ _)); refine blk_far ?_ NB405_415.out _; (with_reducible repeat (first | refine blk_drewN ?_ _ | refine blk_drew ?_ | refine blk_alloc ?_ _)); refine blk_far ?_ NB405_415.out _; (with_reducible repeat (first | refine blk_drewN ?_ _ | refine blk_drew ?_ | refine blk_alloc ?_ _)); refine blk_far ?_ NB405_415.out _; (with_reducible repeat (first | refine blk_drewN ?_ _ | refine blk_drew ?_ | refine blk_alloc ?_ _)); exact BK405.out) hb); have n2_ := Aside0.mk (blk_below (g := gb408) (o := .cells #[.int .i64 ((rd_T68 l0_0 x14_1).f0), .int .i64 ((rd_T68 l0_0 x14_1).f1), .int .i64 ((rd_T68 l0_0 x14_1).f2), .int .i64 ((rd_T68 l0_0 x14_1).f3.f0), .int .i64 ((rd_T68 l0_0 x14_1).f3.f1), .int .i64 ((rd_T68 l0_0 x14_1).f4.f0), .int .i64 ((rd_T68 l0_0 x14_1).f4.f1), .slice A407_7 ((rd_T68 l0_0 x14_1).f5).length c407_7] 68 (0, 0)) (by (with_reducible repeat (first | refine blk_drewN ?_ _ | refine blk_drew ?_ | refine blk_alloc ?_ _)); refine blk_far ?_ NB408_415.out _; (with_reducible repeat (first | refine blk_drewN ?_ _ | refine blk_drew ?_ | refine blk_alloc ?_ _)); refine blk_far ?_ NB408_415.out _; (with_reducible repeat (first | refine blk_drewN ?_ _ | refine blk_drew ?_ | refine blk_alloc ?_ _)); refine blk_far ?_ NB408_415.out _; (with_reducible repeat (first | refine blk_drewN ?_ _ | refine blk_drew ?_ | refine blk_alloc ?_ _)); refine blk_far ?_ NB408_415.out _; (with_reducible repeat (first | refine blk_drewN ?_ _ | refine blk_drew ?_ | refine blk_alloc ?_ _)); refine blk_far ?_ NB408_415.out _; (with_reducible repeat (first | refine blk_drewN ?_ _ | refine blk_drew ?_ | refine blk_alloc ?_ _)); exact BK408.out) hb); have n3_ := Aside0.mk (blk_below (g := gb415) (o := .cells #[.int .i64 t409, .int .i64 t410, .int .i64 t411, .int .i64 t412, .int .i64 t413] 45 (0, 0)) (by (with_reducible repeat (first | refine blk_drewN ?_ _ | refine blk_drew ?_ | refine blk_alloc ?_ _)); refine blk_put (cs := #[.int .i64 t409, .int .i64 t410, .int .i64 t411, .int .i64 t412, .int .i64 0]) ?_ 4 _ rfl; (with_reducible repeat (first | refine blk_drewN ?_ _ | refine blk_drew ?_ | refine blk_alloc ?_ _)); refine blk_put (cs := #[.int .i64 t409, .int .i64 t410, .int .i64 t411, .int .i64 0, .int .i64 0]) ?_ 3 _ rfl; (with_reducible repeat (first | refine blk_drewN ?_ _ | refine blk_drew ?_ | refine blk_alloc ?_ _)); refine blk_put (cs := #[.int .i64 t409, .int .i64 t410, .int .i64 0, .int .i64 0, .int .i64 0]) ?_ 2 _ rfl; (with_reducible repeat (first | refine blk_drewN ?_ _ | refine blk_drew ?_ | refine blk_alloc ?_ _)); refine blk_put (cs := #[.int .i64 t409, .int .i64 0, .int .i64 0, .int .i64 0, .int .i64 0]) ?_ 1 _ rfl; (with_reducible repeat (first | refine blk_drewN ?_ _ | refine blk_drew ?_ | refine blk_alloc ?_ _)); refine blk_put (cs := #[.int .i64 0, .int .i64 0, .int .i64 0, .int .i64 0, .int .i64 0]) ?_ 0 _ rfl; (with_reducible repeat (first | refine blk_drewN ?_ _ | refine blk_drew ?_ | refine blk_alloc ?_ _)); exact BK415.out) hb); have n4_ := Aside0.mk (below_step (by repeat (first | (with_reducible first | exact HB.out | apply below_alloc | apply pw_below_drewN | apply below_drew1 | refine below_set ?_ GE405.out | refine below_set ?_ GE408.out | refine below_set ?_ GE415.out) | exact HB.out)) hb); clear HO_3; clear BK405; clear BK408; clear BK415; clear HB; have HO_3 := n0_; have BK405 := n1_; have BK408 := n2_; have BK415 := n3_; have HB := n4_; clear n0_ n1_ n2_ n3_ n4_; (try clear hb); (try clear hb2); (try clear hk); (try clear hi)))
         go_roundg k1
         case measure => have := HK1.out; omega
         case rel => exact ⟨(x3_1), (wrap64 (x14_1 + 1)), (by first | rfl | (simp; done) | (simp [*]; done)), H', ⟨by have := HK1.out; omega⟩, ⟨by (with_reducible repeat (first | apply Kd.R_alloc | apply Kd.R_drewN | apply Kd.R_drew)); exact Kd.R_mono HO_3.out (fun _ hk => trivial)⟩, ⟨by (with_reducible repeat (first | refine blk_drewN ?_ _ | refine blk_drew ?_ | refine blk_alloc ?_ _)); exact BK405.out⟩, ⟨by repeat (first | (with_reducible first | exact HB.out | apply below_alloc | apply pw_below_drewN | apply below_drew1 | refine below_set ?_ GE405.out | refine below_set ?_ GE408.out | refine below_set ?_ GE415.out) | exact HB.out)⟩⟩
        ·replace c14 := Bool.eq_false_iff.mpr c14
         subst c14
         have H1 : (if x3_1.length < 3518437208883 then (impl_ExprList.l0 k1 (x3_1 ++ [(⟨t409, (⟨t410, t411⟩ : S43), (⟨t412, t413⟩ : S43)⟩ : S45)]) l0_0 (l0_0.length : Int) (wrap64 (x14_1 + 1))) else (none)) = some r := by rw [if_neg (show ¬ (false = true) by decide)] at H; exact H
         clear H
         have H := H1
         clear H1
         by_cases c25 : x3_1.length < 3518437208883
         ·rw [if_pos c25] at H
          have LMc25 := Aside0.mk c25
          clear c25
          obtain ⟨y417, hy417⟩ : ∃ y_ : List (S45), y_ = (x3_1 ++ [(⟨t409, (⟨t410, t411⟩ : S43), (⟨t412, t413⟩ : S43)⟩ : S45)]) := ⟨_, rfl⟩
          replace H : (impl_ExprList.l0 k1 y417 l0_0 (l0_0.length : Int) (wrap64 (x14_1 + 1))) = some r := by first | (rw [hy417]; with_reducible exact H) | (have H2_ := (Option.bind_some _ _).symm.trans H; rw [hy417]; with_reducible exact H2_) | (have H2_ := (Option.bind_some _ _).symm.trans H; with_reducible exact H2_) | with_reducible exact H | (rw [hy417]; exact H) | exact H
          have Ny417 := Aside0.mk hy417
          clear hy417
          have H' := Aside0.mk H
          clear H
          have p407 : 0 ≤ (x14_1 : Int) := of_decide_eq_true (by first | (with_reducible assumption) | assumption)
          have q407 : x14_1 < (l0_0.length : Int) := of_decide_eq_true (by first | (with_reducible assumption) | assumption)
          obtain ⟨ad407, A407_7, c407_7, e407, hx407_0, hx407_1, hx407_2, hx407_3, hx407_4, hx407_5, hx407_6, hx407_7, hl407_7, hi407_7⟩ := at_T68 HR0_0.out x14_1 p407 q407
          cases e407
          replace hx407_0 := (HB.out.cell (World.block_lt_of_cell? w _ hx407_0)).trans hx407_0
          replace hx407_1 := (HB.out.cell (World.block_lt_of_cell? w _ hx407_1)).trans hx407_1
          replace hx407_2 := (HB.out.cell (World.block_lt_of_cell? w _ hx407_2)).trans hx407_2
          replace hx407_3 := (HB.out.cell (World.block_lt_of_cell? w _ hx407_3)).trans hx407_3
          replace hx407_4 := (HB.out.cell (World.block_lt_of_cell? w _ hx407_4)).trans hx407_4
          replace hx407_5 := (HB.out.cell (World.block_lt_of_cell? w _ hx407_5)).trans hx407_5
          replace hx407_6 := (HB.out.cell (World.block_lt_of_cell? w _ hx407_6)).trans hx407_6
          replace hx407_7 := (HB.out.cell (World.block_lt_of_cell? w _ hx407_7)).trans hx407_7
          have HR407_7 := Aside0.mk hi407_7
          have HC407_7 := Aside0.mk hl407_7
          clear hi407_7 hl407_7
          replace p407 := eq_true p407
          replace q407 := eq_true q407
          go_wp2_with (first | ((with_reducible refine gate_dst (N := 5) rfl ?_); refine box_event ?hg (N := 5) ?hd (cs := #[.int .i64 0, .int .i64 0, .int .i64 0, .int .i64 0, .int .i64 0, .int .i64 0, .int .i64 0, .slice none 0 0]) (t := 68) ?hr ?_; (case hd => rfl); (case hg => rfl); (case hr => first | (go_simp; done) | (go_simp; rfl)); intro gb408 hg w26 hbox hb; have n0_ := Aside0.mk (Kd.R_below (by (with_reducible repeat (first | apply Kd.R_alloc | apply Kd.R_drewN | apply Kd.R_drew)); exact HO_3.out) hb); have n1_ := Aside0.mk (blk_below (g := gb405) (o := .cells #[.slice (some ad407) l0_0.length c0_0] 29 (0, 0)) (by (with_reducible repeat (first | refine blk_drewN ?_ _ | refine blk_drew ?_ | refine blk_alloc ?_ _)); exact BK405.out) hb); have n2_ := Aside0.mk (below_step (by repeat (first | (with_reducible first | exact HB.out | apply below_alloc | apply pw_below_drewN | apply below_drew1 | refine below_set ?_ GE405.out) | exact HB.out)) hb); have n3_ := Aside0.mk (hbox); have n4_ := Aside0.mk ((by rw [hg]; exact (below_size (by repeat (first | (with_reducible first | exact HB.out | apply below_alloc | apply pw_below_drewN | apply below_drew1 | refine below_set ?_ GE405.out) | exact HB.out))) : w.heap.size ≤ gb408)); have n5_ := Aside0.mk ((by rw [hg]; exact (below_size (by repeat (first | (with_reducible first | exact HB.out | apply below_alloc | apply pw_below_drewN | apply below_drew1 | refine below_set ?_ GE405.out) | exact HB.out))) : w.heap.size ≤ gb408)); have n6_ := Aside0.mk ((by rw [hg]; exact Nat.ne_of_lt (blk_lt (g := gb405) (o := .cells #[.slice (some ad407) l0_0.length c0_0] 29 (0, 0)) (by (with_reducible repeat (first | refine blk_drewN ?_ _ | refine blk_drew ?_ | refine blk_alloc ?_ _)); exact BK405.out)) : gb405 ≠ gb408)); have n7_ := Aside0.mk ((by rw [hg]; exact Nat.ne_of_gt (blk_lt (g := gb405) (o := .cells #[.slice (some ad407) l0_0.length c0_0] 29 (0, 0)) (by (with_reducible repeat (first | refine blk_drewN ?_ _ | refine blk_drew ?_ | refine blk_alloc ?_ _)); exact BK405.out)) : gb408 ≠ gb405)); clear HO_3; clear BK405; clear HB; have HO_3 := n0_; have BK405 := n1_; have HB := n2_; have BK408 := n3_; have GW408 := n4_; have GE408 := n5_; have NB405_408 := n6_; have NB408_405 := n7_; clear n0_ n1_ n2_ n3_ n4_ n5_ n6_ n7_; clear hb hbox hg; have hnb27 := NB408_405.out; have hnc27 := NB405_408.out; obtain ⟨hcz28_0, hcz28_1, hcz28_2, hcz28_3, hcz28_4, hcz28_5, hcz28_6, hcz28_7⟩ := cells8 BK408.out; have hfz28_0 := blk_frozen BK408.out 0; have hfz28_1 := blk_frozen BK408.out 1; have hfz28_2 := blk_frozen BK408.out 2; have hfz28_3 := blk_frozen BK408.out 3; have hfz28_4 := blk_frozen BK408.out 4; have hfz28_5 := blk_frozen BK408.out 5; have hfz28_6 := blk_frozen BK408.out 6; have hfz28_7 := blk_frozen BK408.out 7) | ((with_reducible refine gate_callee (f := 79) rfl ?_); refine goesL_ (some 20) rfl rfl Try.func79 (by kernel_rfl) rfl #[.agg #[.int .i64 ((rd_T68 l0_0 x14_1).f0), .int .i64 ((rd_T68 l0_0 x14_1).f1), .int .i64 ((rd_T68 l0_0 x14_1).f2), .int .i64 ((rd_T68 l0_0 x14_1).f3.f0), .int .i64 ((rd_T68 l0_0 x14_1).f3.f1), .int .i64 ((rd_T68 l0_0 x14_1).f4.f0), .int .i64 ((rd_T68 l0_0 x14_1).f4.f1), .slice A407_7 ((rd_T68 l0_0 x14_1).f5).length c407_7]] rfl (by (try simp only [List.map_toArray, List.map_cons, List.map_nil]); first | done | rfl | (simp only [List.length_drop, List.length_take]; rfl)) ?_; (with_reducible refine (impl_Step_expr.calls ((rd_T68 l0_0 x14_1).f0) ((rd_T68 l0_0 x14_1).f1) ((rd_T68 l0_0 x14_1).f2) ((rd_T68 l0_0 x14_1).f3.f0) ((rd_T68 l0_0 x14_1).f3.f1) ((rd_T68 l0_0 x14_1).f4.f0) ((rd_T68 l0_0 x14_1).f4.f1) _ _ ((rd_T68 l0_0 x14_1).f5) t409 t410 t411 t412 t413 true _ ?side1 ?side2 A11.out).mono ?_); (case side1 => exact Kd.C_below HR407_7.out (by repeat (first | (with_reducible first | exact HB.out | apply below_alloc | apply pw_below_drewN | apply below_drew1 | refine below_set ?_ GE405.out | refine below_set ?_ GE408.out) | exact HB.out))); (case side2 => exact HC407_7.out); rintro e w29 ⟨rfl, hb⟩; refine ⟨_, rfl, ?_⟩; have n0_ := Aside0.mk (Kd.R_below (by (with_reducible repeat (first | apply Kd.R_alloc | apply Kd.R_drewN | apply Kd.R_drew)); exact (Kd.R_mono (Kd.R_far (p := ⟨gb408, 7, none⟩) (Kd.R_far (p := ⟨gb408, 6, none⟩) (Kd.R_far (p := ⟨gb408, 5, none⟩) (Kd.R_far (p := ⟨gb408, 4, none⟩) (Kd.R_far (p := ⟨gb408, 3, none⟩) (Kd.R_far (p := ⟨gb408, 2, none⟩) (Kd.R_far (p := ⟨gb408, 1, none⟩) (Kd.R_far (p := ⟨gb408, 0, none⟩) (Kd.R_types HO_3.out BK408.out (by decide)) (fun _ hk => hk.2) (.int .i64 ((rd_T68 l0_0 x14_1).f0))) (fun _ hk => hk.2) (.int .i64 ((rd_T68 l0_0 x14_1).f1))) (fun _ hk => hk.2) (.int .i64 ((rd_T68 l0_0 x14_1).f2))) (fun _ hk => hk.2) (.int .i64 ((rd_T68 l0_0 x14_1).f3.f0))) (fun _ hk => hk.2) (.int .i64 ((rd_T68 l0_0 x14_1).f3.f1))) (fun _ hk => hk.2) (.int .i64 ((rd_T68 l0_0 x14_1).f4.f0))) (fun _ hk => hk.2) (.int .i64 ((rd_T68 l0_0 x14_1).f4.f1))) (fun _ hk => hk.2) (.slice A407_7 ((rd_T68 l0_0 x14_1).f5).length c407_7)) (fun _ h_ => h_.1))) hb); have n1_ := Aside0.mk (blk_below (g := gb405) (o := .cells #[.slice (some ad407) l0_0.length c0_0] 29 (0, 0)) (by (with_reducible repeat (first | refine blk_drewN ?_ _ | refine blk_drew ?_ | refine blk_alloc ?_ _)); refine blk_far ?_ NB405_408.out _; (with_reducible repeat (first | refine blk_drewN ?_ _ | refine blk_drew ?_ | refine blk_alloc ?_ _)); refine blk_far ?_ NB405_408.out _; (with_reducible repeat (first | refine blk_drewN ?_ _ | refine blk_drew ?_ | refine blk_alloc ?_ _)); refine blk_far ?_ NB405_408.out _; (with_reducible repeat (first | refine blk_drewN ?_ _ | refine blk_drew ?_ | refine blk_alloc ?_ _)); refine blk_far ?_ NB405_408.out _; (with_reducible repeat (first | refine blk_drewN ?_ _ | refine blk_drew ?_ | refine blk_alloc ?_ _)); refine blk_far ?_ NB405_408.out _; (with_reducible repeat (first | refine blk_drewN ?_ _ | refine blk_drew ?_ | refine blk_alloc ?_ _)); refine blk_far ?_ NB405_408.out _; (with_reducible repeat (first | refine blk_drewN ?_ _ | refine blk_drew ?_ | refine blk_alloc ?_ _)); refine blk_far ?_ NB405_408.out _; (with_reducible repeat (first | refine blk_drewN ?_ _ | refine blk_drew ?_ | refine blk_alloc ?_ _)); refine blk_far ?_ NB405_408.out _; (with_reducible repeat (first | refine blk_drewN ?_ _ | refine blk_drew ?_ | refine blk_alloc ?_ _)); exact BK405.out) hb); have n2_ := Aside0.mk (blk_below (g := gb408) (o := .cells #[.int .i64 ((rd_T68 l0_0 x14_1).f0), .int .i64 ((rd_T68 l0_0 x14_1).f1), .int .i64 ((rd_T68 l0_0 x14_1).f2), .int .i64 ((rd_T68 l0_0 x14_1).f3.f0), .int .i64 ((rd_T68 l0_0 x14_1).f3.f1), .int .i64 ((rd_T68 l0_0 x14_1).f4.f0), .int .i64 ((rd_T68 l0_0 x14_1).f4.f1), .slice A407_7 ((rd_T68 l0_0 x14_1).f5).length c407_7] 68 (0, 0)) (by (with_reducible repeat (first | refine blk_drewN ?_ _ | refine blk_drew ?_ | refine blk_alloc ?_ _)); refine blk_put (cs := #[.int .i64 ((rd_T68 l0_0 x14_1).f0), .int .i64 ((rd_T68 l0_0 x14_1).f1), .int .i64 ((rd_T68 l0_0 x14_1).f2), .int .i64 ((rd_T68 l0_0 x14_1).f3.f0), .int .i64 ((rd_T68 l0_0 x14_1).f3.f1), .int .i64 ((rd_T68 l0_0 x14_1).f4.f0), .int .i64 ((rd_T68 l0_0 x14_1).f4.f1), .slice none 0 0]) ?_ 7 _ rfl; (with_reducible repeat (first | refine blk_drewN ?_ _ | refine blk_drew ?_ | refine blk_alloc ?_ _)); refine blk_put (cs := #[.int .i64 ((rd_T68 l0_0 x14_1).f0), .int .i64 ((rd_T68 l0_0 x14_1).f1), .int .i64 ((rd_T68 l0_0 x14_1).f2), .int .i64 ((rd_T68 l0_0 x14_1).f3.f0), .int .i64 ((rd_T68 l0_0 x14_1).f3.f1), .int .i64 ((rd_T68 l0_0 x14_1).f4.f0), .int .i64 0, .slice none 0 0]) ?_ 6 _ rfl; (with_reducible repeat (first | refine blk_drewN ?_ _ | refine blk_drew ?_ | refine blk_alloc ?_ _)); refine blk_put (cs := #[.int .i64 ((rd_T68 l0_0 x14_1).f0), .int .i64 ((rd_T68 l0_0 x14_1).f1), .int .i64 ((rd_T68 l0_0 x14_1).f2), .int .i64 ((rd_T68 l0_0 x14_1).f3.f0), .int .i64 ((rd_T68 l0_0 x14_1).f3.f1), .int .i64 0, .int .i64 0, .slice none 0 0]) ?_ 5 _ rfl; (with_reducible repeat (first | refine blk_drewN ?_ _ | refine blk_drew ?_ | refine blk_alloc ?_ _)); refine blk_put (cs := #[.int .i64 ((rd_T68 l0_0 x14_1).f0), .int .i64 ((rd_T68 l0_0 x14_1).f1), .int .i64 ((rd_T68 l0_0 x14_1).f2), .int .i64 ((rd_T68 l0_0 x14_1).f3.f0), .int .i64 0, .int .i64 0, .int .i64 0, .slice none 0 0]) ?_ 4 _ rfl; (with_reducible repeat (first | refine blk_drewN ?_ _ | refine blk_drew ?_ | refine blk_alloc ?_ _)); refine blk_put (cs := #[.int .i64 ((rd_T68 l0_0 x14_1).f0), .int .i64 ((rd_T68 l0_0 x14_1).f1), .int .i64 ((rd_T68 l0_0 x14_1).f2), .int .i64 0, .int .i64 0, .int .i64 0, .int .i64 0, .slice none 0 0]) ?_ 3 _ rfl; (with_reducible repeat (first | refine blk_drewN ?_ _ | refine blk_drew ?_ | refine blk_alloc ?_ _)); refine blk_put (cs := #[.int .i64 ((rd_T68 l0_0 x14_1).f0), .int .i64 ((rd_T68 l0_0 x14_1).f1), .int .i64 0, .int .i64 0, .int .i64 0, .int .i64 0, .int .i64 0, .slice none 0 0]) ?_ 2 _ rfl; (with_reducible repeat (first | refine blk_drewN ?_ _ | refine blk_drew ?_ | refine blk_alloc ?_ _)); refine blk_put (cs := #[.int .i64 ((rd_T68 l0_0 x14_1).f0), .int .i64 0, .int .i64 0, .int .i64 0, .int .i64 0, .int .i64 0, .int .i64 0, .slice none 0 0]) ?_ 1 _ rfl; (with_reducible repeat (first | refine blk_drewN ?_ _ | refine blk_drew ?_ | refine blk_alloc ?_ _)); refine blk_put (cs := #[.int .i64 0, .int .i64 0, .int .i64 0, .int .i64 0, .int .i64 0, .int .i64 0, .int .i64 0, .slice none 0 0]) ?_ 0 _ rfl; (with_reducible repeat (first | refine blk_drewN ?_ _ | refine blk_drew ?_ | refine blk_alloc ?_ _)); exact BK408.out) hb); have n3_ := Aside0.mk (below_step (by repeat (first | (with_reducible first | exact HB.out | apply below_alloc | apply pw_below_drewN | apply below_drew1 | refine below_set ?_ GE405.out | refine below_set ?_ GE408.out) | exact HB.out)) hb); clear HO_3; clear BK405; clear BK408; clear HB; have HO_3 := n0_; have BK405 := n1_; have BK408 := n2_; have HB := n3_; clear n0_ n1_ n2_ n3_; (try clear hb); (try clear hb2); (try clear hk); (try clear hi)) | ((with_reducible refine gate_dst (N := 6) rfl ?_); refine box_event ?hg (N := 6) ?hd (cs := #[.int .i64 0, .int .i64 0, .int .i64 0, .int .i64 0, .int .i64 0]) (t := 45) ?hr ?_; (case hd => rfl); (case hg => rfl); (case hr => first | (go_simp; done) | (go_simp; rfl)); intro gb415 hg w30 hbox hb; have n0_ := Aside0.mk (Kd.R_below (Kd.R_elderB (by (with_reducible repeat (first | apply Kd.R_alloc | apply Kd.R_drewN | apply Kd.R_drew)); exact HO_3.out) gb415 (Nat.le_of_eq hg.symm)) hb); have n1_ := Aside0.mk (blk_below (g := gb405) (o := .cells #[.slice (some ad407) l0_0.length c0_0] 29 (0, 0)) (by (with_reducible repeat (first | refine blk_drewN ?_ _ | refine blk_drew ?_ | refine blk_alloc ?_ _)); exact BK405.out) hb); have n2_ := Aside0.mk (blk_below (g := gb408) (o := .cells #[.int .i64 ((rd_T68 l0_0 x14_1).f0), .int .i64 ((rd_T68 l0_0 x14_1).f1), .int .i64 ((rd_T68 l0_0 x14_1).f2), .int .i64 ((rd_T68 l0_0 x14_1).f3.f0), .int .i64 ((rd_T68 l0_0 x14_1).f3.f1), .int .i64 ((rd_T68 l0_0 x14_1).f4.f0), .int .i64 ((rd_T68 l0_0 x14_1).f4.f1), .slice A407_7 ((rd_T68 l0_0 x14_1).f5).length c407_7] 68 (0, 0)) (by (with_reducible repeat (first | refine blk_drewN ?_ _ | refine blk_drew ?_ | refine blk_alloc ?_ _)); exact BK408.out) hb); have n3_ := Aside0.mk (below_step (by repeat (first | (with_reducible first | exact HB.out | apply below_alloc | apply pw_below_drewN | apply below_drew1 | refine below_set ?_ GE405.out | refine below_set ?_ GE408.out) | exact HB.out)) hb); have n4_ := Aside0.mk (hbox); have n5_ := Aside0.mk ((by rw [hg]; exact (below_size (by repeat (first | (with_reducible first | exact HB.out | apply below_alloc | apply pw_below_drewN | apply below_drew1 | refine below_set ?_ GE405.out | refine below_set ?_ GE408.out) | exact HB.out))) : w.heap.size ≤ gb415)); have n6_ := Aside0.mk ((by rw [hg]; exact (below_size (by repeat (first | (with_reducible first | exact HB.out | apply below_alloc | apply pw_below_drewN | apply below_drew1 | refine below_set ?_ GE405.out | refine below_set ?_ GE408.out) | exact HB.out))) : w.heap.size ≤ gb415)); have n7_ := Aside0.mk ((by rw [hg]; exact Nat.ne_of_lt (blk_lt (g := gb405) (o := .cells #[.slice (some ad407) l0_0.length c0_0] 29 (0, 0)) (by (with_reducible repeat (first | refine blk_drewN ?_ _ | refine blk_drew ?_ | refine blk_alloc ?_ _)); exact BK405.out)) : gb405 ≠ gb415)); have n8_ := Aside0.mk ((by rw [hg]; exact Nat.ne_of_gt (blk_lt (g := gb405) (o := .cells #[.slice (some ad407) l0_0.length c0_0] 29 (0, 0)) (by (with_reducible repeat (first | refine blk_drewN ?_ _ | refine blk_drew ?_ | refine blk_alloc ?_ _)); exact BK405.out)) : gb415 ≠ gb405)); have n9_ := Aside0.mk ((by rw [hg]; exact Nat.ne_of_lt (blk_lt (g := gb408) (o := .cells #[.int .i64 ((rd_T68 l0_0 x14_1).f0), .int .i64 ((rd_T68 l0_0 x14_1).f1), .int .i64 ((rd_T68 l0_0 x14_1).f2), .int .i64 ((rd_T68 l0_0 x14_1).f3.f0), .int .i64 ((rd_T68 l0_0 x14_1).f3.f1), .int .i64 ((rd_T68 l0_0 x14_1).f4.f0), .int .i64 ((rd_T68 l0_0 x14_1).f4.f1), .slice A407_7 ((rd_T68 l0_0 x14_1).f5).length c407_7] 68 (0, 0)) (by (with_reducible repeat (first | refine blk_drewN ?_ _ | refine blk_drew ?_ | refine blk_alloc ?_ _)); exact BK408.out)) : gb408 ≠ gb415)); have n10_ := Aside0.mk ((by rw [hg]; exact Nat.ne_of_gt (blk_lt (g := gb408) (o := .cells #[.int .i64 ((rd_T68 l0_0 x14_1).f0), .int .i64 ((rd_T68 l0_0 x14_1).f1), .int .i64 ((rd_T68 l0_0 x14_1).f2), .int .i64 ((rd_T68 l0_0 x14_1).f3.f0), .int .i64 ((rd_T68 l0_0 x14_1).f3.f1), .int .i64 ((rd_T68 l0_0 x14_1).f4.f0), .int .i64 ((rd_T68 l0_0 x14_1).f4.f1), .slice A407_7 ((rd_T68 l0_0 x14_1).f5).length c407_7] 68 (0, 0)) (by (with_reducible repeat (first | refine blk_drewN ?_ _ | refine blk_drew ?_ | refine blk_alloc ?_ _)); exact BK408.out)) : gb415 ≠ gb408)); clear HO_3; clear BK405; clear BK408; clear HB; have HO_3 := n0_; have BK405 := n1_; have BK408 := n2_; have HB := n3_; have BK415 := n4_; have GW415 := n5_; have GE415 := n6_; have NB405_415 := n7_; have NB415_405 := n8_; have NB408_415 := n9_; have NB415_408 := n10_; clear n0_ n1_ n2_ n3_ n4_ n5_ n6_ n7_ n8_ n9_ n10_; clear hb hbox hg; have hnb31 := NB415_405.out; have hnc31 := NB405_415.out; have hnb32 := NB415_408.out; have hnc32 := NB408_415.out; obtain ⟨hcz33_0, hcz33_1, hcz33_2, hcz33_3, hcz33_4⟩ := cells5 BK415.out; have hfz33_0 := blk_frozen BK415.out 0; have hfz33_1 := blk_frozen BK415.out 1; have hfz33_2 := blk_frozen BK415.out 2; have hfz33_3 := blk_frozen BK415.out 3; have hfz33_4 := blk_frozen BK415.out 4; obtain ⟨Ao34, co34, eo34⟩ := Kd.R_slice HO_3.out; subst eo34) | (go_at_call 80; (with_reducible refine (impl_Expr_80.calls k1 _ _ x3_1 t409 t410 t411 t412 t413 false _ ?side1 ?side2 A13.out).mono ?_); (case side1 => refine (Kd.R_reads' (e := 45) (base := w.heap.size) (ok := fun k_ => (True ∧ k_ ≠ gb415)) (n := x3_1.length) (c := co34) ?_).2.2; exact (by (with_reducible repeat (first | apply Kd.R_alloc | apply Kd.R_drewN | apply Kd.R_drew)); exact (Kd.R_mono (Kd.R_far (p := ⟨gb415, 4, none⟩) (Kd.R_far (p := ⟨gb415, 3, none⟩) (Kd.R_far (p := ⟨gb415, 2, none⟩) (Kd.R_far (p := ⟨gb415, 1, none⟩) (Kd.R_far (p := ⟨gb415, 0, none⟩) (Kd.R_mono HO_3.out (fun k_ hk => (⟨hk, hk.2⟩ : _ ∧ k_ ≠ gb415))) (fun _ hk => hk.2) (.int .i64 t409)) (fun _ hk => hk.2) (.int .i64 t410)) (fun _ hk => hk.2) (.int .i64 t411)) (fun _ hk => hk.2) (.int .i64 t412)) (fun _ hk => hk.2) (.int .i64 t413)) (fun _ h_ => h_.1)))); (case side2 => exact (Kd.R_reads' HO_3.out).2.1); rintro e w35 ⟨rfl, hb⟩; have n0_ := Aside0.mk (Kd.R_below (by (with_reducible repeat (first | apply Kd.R_alloc | apply Kd.R_drewN | apply Kd.R_drew)); exact (Kd.R_mono (Kd.R_far (p := ⟨gb415, 4, none⟩) (Kd.R_far (p := ⟨gb415, 3, none⟩) (Kd.R_far (p := ⟨gb415, 2, none⟩) (Kd.R_far (p := ⟨gb415, 1, none⟩) (Kd.R_far (p := ⟨gb415, 0, none⟩) (Kd.R_mono HO_3.out (fun k_ hk => (⟨hk, hk.2⟩ : _ ∧ k_ ≠ gb415))) (fun _ hk => hk.2) (.int .i64 t409)) (fun _ hk => hk.2) (.int .i64 t410)) (fun _ hk => hk.2) (.int .i64 t411)) (fun _ hk => hk.2) (.int .i64 t412)) (fun _ hk => hk.2) (.int .i64 t413)) (fun _ h_ => h_.1))) hb); have n1_ := Aside0.mk (blk_below (g := gb405) (o := .cells #[.slice (some ad407) l0_0.length c0_0] 29 (0, 0)) (by (with_reducible repeat (first | refine blk_drewN ?_ _ | refine blk_drew ?_ | refine blk_alloc ?_ _)); refine blk_far ?_ NB405_415.out _; (with_reducible repeat (first | refine blk_drewN ?_ _ | refine blk_drew ?_ | refine blk_alloc ?_ _)); refine blk_far ?_ NB405_415.out _; (with_reducible repeat (first | refine blk_drewN ?_ _ | refine blk_drew ?_ | refine blk_alloc ?_ _)); refine blk_far ?_ NB405_415.out _; (with_reducible repeat (first | refine blk_drewN ?_ _ | refine blk_drew ?_ | refine blk_alloc ?_ _)); refine blk_far ?_ NB405_415.out _; (with_reducible repeat (first | refine blk_drewN ?_ _ | refine blk_drew ?_ | refine blk_alloc ?_ _)); refine blk_far ?_ NB405_415.out _; (with_reducible repeat (first | refine blk_drewN ?_ _ | refine blk_drew ?_ | refine blk_alloc ?_ _)); exact BK405.out) hb); have n2_ := Aside0.mk (blk_below (g := gb408) (o := .cells #[.int .i64 ((rd_T68 l0_0 x14_1).f0), .int .i64 ((rd_T68 l0_0 x14_1).f1), .int .i64 ((rd_T68 l0_0 x14_1).f2), .int .i64 ((rd_T68 l0_0 x14_1).f3.f0), .int .i64 ((rd_T68 l0_0 x14_1).f3.f1), .int .i64 ((rd_T68 l0_0 x14_1).f4.f0), .int .i64 ((rd_T68 l0_0 x14_1).f4.f1), .slice A407_7 ((rd_T68 l0_0 x14_1).f5).length c407_7] 68 (0, 0)) (by (with_reducible repeat (first | refine blk_drewN ?_ _ | refine blk_drew ?_ | refine blk_alloc ?_ _)); refine blk_far ?_ NB408_415.out _; (with_reducible repeat (first | refine blk_drewN ?_ _ | refine blk_drew ?_ | refine blk_alloc ?_ _)); refine blk_far ?_ NB408_415.out _; (with_reducible repeat (first | refine blk_drewN ?_ _ | refine blk_drew ?_ | refine blk_alloc ?_ _)); refine blk_far ?_ NB408_415.out _; (with_reducible repeat (first | refine blk_drewN ?_ _ | refine blk_drew ?_ | refine blk_alloc ?_ _)); refine blk_far ?_ NB408_415.out _; (with_reducible repeat (first | refine blk_drewN ?_ _ | refine blk_drew ?_ | refine blk_alloc ?_ _)); refine blk_far ?_ NB408_415.out _; (with_reducible repeat (first | refine blk_drewN ?_ _ | refine blk_drew ?_ | refine blk_alloc ?_ _)); exact BK408.out) hb); have n3_ := Aside0.mk (blk_below (g := gb415) (o := .cells #[.int .i64 t409, .int .i64 t410, .int .i64 t411, .int .i64 t412, .int .i64 t413] 45 (0, 0)) (by (with_reducible repeat (first | refine blk_drewN ?_ _ | refine blk_drew ?_ | refine blk_alloc ?_ _)); refine blk_put (cs := #[.int .i64 t409, .int .i64 t410, .int .i64 t411, .int .i64 t412, .int .i64 0]) ?_ 4 _ rfl; (with_reducible repeat (first | refine blk_drewN ?_ _ | refine blk_drew ?_ | refine blk_alloc ?_ _)); refine blk_put (cs := #[.int .i64 t409, .int .i64 t410, .int .i64 t411, .int .i64 0, .int .i64 0]) ?_ 3 _ rfl; (with_reducible repeat (first | refine blk_drewN ?_ _ | refine blk_drew ?_ | refine blk_alloc ?_ _)); refine blk_put (cs := #[.int .i64 t409, .int .i64 t410, .int .i64 0, .int .i64 0, .int .i64 0]) ?_ 2 _ rfl; (with_reducible repeat (first | refine blk_drewN ?_ _ | refine blk_drew ?_ | refine blk_alloc ?_ _)); refine blk_put (cs := #[.int .i64 t409, .int .i64 0, .int .i64 0, .int .i64 0, .int .i64 0]) ?_ 1 _ rfl; (with_reducible repeat (first | refine blk_drewN ?_ _ | refine blk_drew ?_ | refine blk_alloc ?_ _)); refine blk_put (cs := #[.int .i64 0, .int .i64 0, .int .i64 0, .int .i64 0, .int .i64 0]) ?_ 0 _ rfl; (with_reducible repeat (first | refine blk_drewN ?_ _ | refine blk_drew ?_ | refine blk_alloc ?_ _)); exact BK415.out) hb); have n4_ := Aside0.mk (below_step (by repeat (first | (with_reducible first | exact HB.out | apply below_alloc | apply pw_below_drewN | apply below_drew1 | refine below_set ?_ GE405.out | refine below_set ?_ GE408.out | refine below_set ?_ GE415.out) | exact HB.out)) hb); clear HO_3; clear BK405; clear BK408; clear BK415; clear HB; have HO_3 := n0_; have BK405 := n1_; have BK408 := n2_; have BK415 := n3_; have HB := n4_; clear n0_ n1_ n2_ n3_ n4_; (try clear hb); (try clear hb2); (try clear hk); (try clear hi); obtain ⟨hcz36_0, hcz36_1, hcz36_2, hcz36_3, hcz36_4⟩ := cells5 BK415.out; have hfz36_0 := blk_frozen BK415.out 0; have hfz36_1 := blk_frozen BK415.out 1; have hfz36_2 := blk_frozen BK415.out 2; have hfz36_3 := blk_frozen BK415.out 3; have hfz36_4 := blk_frozen BK415.out 4) | ((with_reducible refine gate_builtin (b := .append) (xs := #[.tmp 30, .tmp 32]) rfl ?_); at_builtin; refine Kd.R_append k45 (w0 := w) w.heap.size rfl (.tmp 30) (.tmp 32) 48 45 (.agg #[(.int .i64 0), (.int .i64 0), (.int .i64 0), (.int .i64 0), (.int .i64 0)]) 40 rfl Try.underlying48 info45 rfl (by decide) (by omega) (.slice Ao34 x3_1.length co34) x3_1 (⟨t409, (⟨t410, t411⟩ : S43), (⟨t412, t413⟩ : S43)⟩ : S45) [.int .i64 t409, .int .i64 t410, .int .i64 t411, .int .i64 t412, .int .i64 t413] (fun k_ => k_ ≠ gb415) (fun _ => False) rfl rfl ?aP (fun _ hk => hk.elim) ?aF ?aO ?aB ?aS ?aL ?_; (case aP => exact k45_mkM _ _ _ (⟨t409, (⟨t410, t411⟩ : S43), (⟨t412, t413⟩ : S43)⟩ : S45)); (case aB => exact (by repeat (first | (with_reducible first | exact HB.out | apply below_alloc | apply pw_below_drewN | apply below_drew1 | refine below_set ?_ GE405.out | refine below_set ?_ GE408.out | refine below_set ?_ GE415.out) | exact HB.out))); (case aF => exact (fun k_ hk => Kd.freshB (g := gb415) (o := .cells #[.int .i64 t409, .int .i64 t410, .int .i64 t411, .int .i64 t412, .int .i64 t413] 45 (0, 0)) (by (with_reducible repeat (first | refine blk_drewN ?_ _ | refine blk_drew ?_ | refine blk_alloc ?_ _)); exact BK415.out) k_ hk)); (case aO => exact (by (with_reducible repeat (first | apply Kd.R_alloc | apply Kd.R_drewN | apply Kd.R_drew)); exact Kd.R_mono HO_3.out (fun _ hk => hk.2))); (case aS => exact (below_size (by repeat (first | (with_reducible first | exact HB.out | apply below_alloc | apply pw_below_drewN | apply below_drew1 | refine below_set ?_ GE405.out | refine below_set ?_ GE408.out | refine below_set ?_ GE415.out) | exact HB.out)))); (case aL => have := LMc25.out; omega); intro v418 w37 ho hb hg hat; rw [← Ny417.out] at ho; have n0_ := Aside0.mk (blk_grown (g := gb405) (o := .cells #[.slice (some ad407) l0_0.length c0_0] 29 (0, 0)) (by (with_reducible repeat (first | refine blk_drewN ?_ _ | refine blk_drew ?_ | refine blk_alloc ?_ _)); exact BK405.out) hg (Kd.R_ne HO_3.out BK405.out (by decide))); have n1_ := Aside0.mk (blk_grown (g := gb408) (o := .cells #[.int .i64 ((rd_T68 l0_0 x14_1).f0), .int .i64 ((rd_T68 l0_0 x14_1).f1), .int .i64 ((rd_T68 l0_0 x14_1).f2), .int .i64 ((rd_T68 l0_0 x14_1).f3.f0), .int .i64 ((rd_T68 l0_0 x14_1).f3.f1), .int .i64 ((rd_T68 l0_0 x14_1).f4.f0), .int .i64 ((rd_T68 l0_0 x14_1).f4.f1), .slice A407_7 ((rd_T68 l0_0 x14_1).f5).length c407_7] 68 (0, 0)) (by (with_reducible repeat (first | refine blk_drewN ?_ _ | refine blk_drew ?_ | refine blk_alloc ?_ _)); exact BK408.out) hg (Kd.R_ne HO_3.out BK408.out (by decide))); have n2_ := Aside0.mk (blk_grown (g := gb415) (o := .cells #[.int .i64 t409, .int .i64 t410, .int .i64 t411, .int .i64 t412, .int .i64 t413] 45 (0, 0)) (by (with_reducible repeat (first | refine blk_drewN ?_ _ | refine blk_drew ?_ | refine blk_alloc ?_ _)); exact BK415.out) hg (Kd.R_away HO_3.out (fun _ hk => hk.2))); have n3_ := Aside0.mk (hb); have n4_ := Aside0.mk (ho); clear BK405; clear BK408; clear BK415; clear HB; clear HO_3; have BK405 := n0_; have BK408 := n1_; have BK415 := n2_; have HB := n3_; have HO419 := n4_; clear n0_ n1_ n2_ n3_ n4_; clear ho hb hg hat))
          go_roundg k1
          case measure => have := HK1.out; omega
          case rel => exact ⟨(y417), (wrap64 (x14_1 + 1)), (by first | rfl | (simp; done) | (simp [*]; done)), H', ⟨by have := HK1.out; omega⟩, ⟨by (with_reducible repeat (first | apply Kd.R_alloc | apply Kd.R_drewN | apply Kd.R_drew)); exact Kd.R_mono HO419.out (fun _ hk => trivial)⟩, ⟨by (with_reducible repeat (first | refine blk_drewN ?_ _ | refine blk_drew ?_ | refine blk_alloc ?_ _)); exact BK405.out⟩, ⟨by repeat (first | (with_reducible first | exact HB.out | apply below_alloc | apply pw_below_drewN | apply below_drew1 | refine below_set ?_ GE405.out | refine below_set ?_ GE408.out | refine below_set ?_ GE415.out) | exact HB.out)⟩⟩
         ·rw [if_neg c25] at H
          exact absurd H (by simp)
       ·replace c12 := Bool.eq_false_iff.mpr c12
        subst c12
        have H1 : (impl_ExprList.l0 k1 x3_1 l0_0 (l0_0.length : Int) (wrap64 (x14_1 + 1))) = some r := by rw [if_neg (show ¬ (false = true) by decide)] at H; exact H
        clear H
        have H := H1
        clear H1
        have H' := Aside0.mk H
        clear H
        have p407 : 0 ≤ (x14_1 : Int) := of_decide_eq_true (by first | (with_reducible assumption) | assumption)
        have q407 : x14_1 < (l0_0.length : Int) := of_decide_eq_true (by first | (with_reducible assumption) | assumption)
        obtain ⟨ad407, A407_7, c407_7, e407, hx407_0, hx407_1, hx407_2, hx407_3, hx407_4, hx407_5, hx407_6, hx407_7, hl407_7, hi407_7⟩ := at_T68 HR0_0.out x14_1 p407 q407
        cases e407
        replace hx407_0 := (HB.out.cell (World.block_lt_of_cell? w _ hx407_0)).trans hx407_0
        replace hx407_1 := (HB.out.cell (World.block_lt_of_cell? w _ hx407_1)).trans hx407_1
        replace hx407_2 := (HB.out.cell (World.block_lt_of_cell? w _ hx407_2)).trans hx407_2
        replace hx407_3 := (HB.out.cell (World.block_lt_of_cell? w _ hx407_3)).trans hx407_3
        replace hx407_4 := (HB.out.cell (World.block_lt_of_cell? w _ hx407_4)).trans hx407_4
        replace hx407_5 := (HB.out.cell (World.block_lt_of_cell? w _ hx407_5)).trans hx407_5
        replace hx407_6 := (HB.out.cell (World.block_lt_of_cell? w _ hx407_6)).trans hx407_6
        replace hx407_7 := (HB.out.cell (World.block_lt_of_cell? w _ hx407_7)).trans hx407_7
        have HR407_7 := Aside0.mk hi407_7
        have HC407_7 := Aside0.mk hl407_7
        clear hi407_7 hl407_7
        replace p407 := eq_true p407
        replace q407 := eq_true q407
        go_wp2_with (first | ((with_reducible refine gate_dst (N := 5) rfl ?_); refine box_event ?hg (N := 5) ?hd (cs := #[.int .i64 0, .int .i64 0, .int .i64 0, .int .i64 0, .int .i64 0, .int .i64 0, .int .i64 0, .slice none 0 0]) (t := 68) ?hr ?_; (case hd => rfl); (case hg => rfl); (case hr => first | (go_simp; done) | (go_simp; rfl)); intro gb408 hg w38 hbox hb; have n0_ := Aside0.mk (Kd.R_below (by (with_reducible repeat (first | apply Kd.R_alloc | apply Kd.R_drewN | apply Kd.R_drew)); exact HO_3.out) hb); have n1_ := Aside0.mk (blk_below (g := gb405) (o := .cells #[.slice (some ad407) l0_0.length c0_0] 29 (0, 0)) (by (with_reducible repeat (first | refine blk_drewN ?_ _ | refine blk_drew ?_ | refine blk_alloc ?_ _)); exact BK405.out) hb); have n2_ := Aside0.mk (below_step (by repeat (first | (with_reducible first | exact HB.out | apply below_alloc | apply pw_below_drewN | apply below_drew1 | refine below_set ?_ GE405.out) | exact HB.out)) hb); have n3_ := Aside0.mk (hbox); have n4_ := Aside0.mk ((by rw [hg]; exact (below_size (by repeat (first | (with_reducible first | exact HB.out | apply below_alloc | apply pw_below_drewN | apply below_drew1 | refine below_set ?_ GE405.out) | exact HB.out))) : w.heap.size ≤ gb408)); have n5_ := Aside0.mk ((by rw [hg]; exact (below_size (by repeat (first | (with_reducible first | exact HB.out | apply below_alloc | apply pw_below_drewN | apply below_drew1 | refine below_set ?_ GE405.out) | exact HB.out))) : w.heap.size ≤ gb408)); have n6_ := Aside0.mk ((by rw [hg]; exact Nat.ne_of_lt (blk_lt (g := gb405) (o := .cells #[.slice (some ad407) l0_0.length c0_0] 29 (0, 0)) (by (with_reducible repeat (first | refine blk_drewN ?_ _ | refine blk_drew ?_ | refine blk_alloc ?_ _)); exact BK405.out)) : gb405 ≠ gb408)); have n7_ := Aside0.mk ((by rw [hg]; exact Nat.ne_of_gt (blk_lt (g := gb405) (o := .cells #[.slice (some ad407) l0_0.length c0_0] 29 (0, 0)) (by (with_reducible repeat (first | refine blk_drewN ?_ _ | refine blk_drew ?_ | refine blk_alloc ?_ _)); exact BK405.out)) : gb408 ≠ gb405)); clear HO_3; clear BK405; clear HB; have HO_3 := n0_; have BK405 := n1_; have HB := n2_; have BK408 := n3_; have GW408 := n4_; have GE408 := n5_; have NB405_408 := n6_; have NB408_405 := n7_; clear n0_ n1_ n2_ n3_ n4_ n5_ n6_ n7_; clear hb hbox hg; have hnb39 := NB408_405.out; have hnc39 := NB405_408.out; obtain ⟨hcz40_0, hcz40_1, hcz40_2, hcz40_3, hcz40_4, hcz40_5, hcz40_6, hcz40_7⟩ := cells8 BK408.out; have hfz40_0 := blk_frozen BK408.out 0; have hfz40_1 := blk_frozen BK408.out 1; have hfz40_2 := blk_frozen BK408.out 2; have hfz40_3 := blk_frozen BK408.out 3; have hfz40_4 := blk_frozen BK408.out 4; have hfz40_5 := blk_frozen BK408.out 5; have hfz40_6 := blk_frozen BK408.out 6; have hfz40_7 := blk_frozen BK408.out 7) | ((with_reducible refine gate_callee (f := 79) rfl ?_); refine goesL_ (some 20) rfl rfl Try.func79 (by kernel_rfl) rfl #[.agg #[.int .i64 ((rd_T68 l0_0 x14_1).f0), .int .i64 ((rd_T68 l0_0 x14_1).f1), .int .i64 ((rd_T68 l0_0 x14_1).f2), .int .i64 ((rd_T68 l0_0 x14_1).f3.f0), .int .i64 ((rd_T68 l0_0 x14_1).f3.f1), .int .i64 ((rd_T68 l0_0 x14_1).f4.f0), .int .i64 ((rd_T68 l0_0 x14_1).f4.f1), .slice A407_7 ((rd_T68 l0_0 x14_1).f5).length c407_7]] rfl (by (try simp only [List.map_toArray, List.map_cons, List.map_nil]); first | done | rfl | (simp only [List.length_drop, List.length_take]; rfl)) ?_; (with_reducible refine (impl_Step_expr.calls ((rd_T68 l0_0 x14_1).f0) ((rd_T68 l0_0 x14_1).f1) ((rd_T68 l0_0 x14_1).f2) ((rd_T68 l0_0 x14_1).f3.f0) ((rd_T68 l0_0 x14_1).f3.f1) ((rd_T68 l0_0 x14_1).f4.f0) ((rd_T68 l0_0 x14_1).f4.f1) _ _ ((rd_T68 l0_0 x14_1).f5) t409 t410 t411 t412 t413 false _ ?side1 ?side2 A11.out).mono ?_); (case side1 => exact Kd.C_below HR407_7.out (by repeat (first | (with_reducible first | exact HB.out | apply below_alloc | apply pw_below_drewN | apply below_drew1 | refine below_set ?_ GE405.out | refine below_set ?_ GE408.out) | exact HB.out))); (case side2 => exact HC407_7.out); rintro e w41 ⟨rfl, hb⟩; refine ⟨_, rfl, ?_⟩; have n0_ := Aside0.mk (Kd.R_below (by (with_reducible repeat (first | apply Kd.R_alloc | apply Kd.R_drewN | apply Kd.R_drew)); exact (Kd.R_mono (Kd.R_far (p := ⟨gb408, 7, none⟩) (Kd.R_far (p := ⟨gb408, 6, none⟩) (Kd.R_far (p := ⟨gb408, 5, none⟩) (Kd.R_far (p := ⟨gb408, 4, none⟩) (Kd.R_far (p := ⟨gb408, 3, none⟩) (Kd.R_far (p := ⟨gb408, 2, none⟩) (Kd.R_far (p := ⟨gb408, 1, none⟩) (Kd.R_far (p := ⟨gb408, 0, none⟩) (Kd.R_types HO_3.out BK408.out (by decide)) (fun _ hk => hk.2) (.int .i64 ((rd_T68 l0_0 x14_1).f0))) (fun _ hk => hk.2) (.int .i64 ((rd_T68 l0_0 x14_1).f1))) (fun _ hk => hk.2) (.int .i64 ((rd_T68 l0_0 x14_1).f2))) (fun _ hk => hk.2) (.int .i64 ((rd_T68 l0_0 x14_1).f3.f0))) (fun _ hk => hk.2) (.int .i64 ((rd_T68 l0_0 x14_1).f3.f1))) (fun _ hk => hk.2) (.int .i64 ((rd_T68 l0_0 x14_1).f4.f0))) (fun _ hk => hk.2) (.int .i64 ((rd_T68 l0_0 x14_1).f4.f1))) (fun _ hk => hk.2) (.slice A407_7 ((rd_T68 l0_0 x14_1).f5).length c407_7)) (fun _ h_ => h_.1))) hb); have n1_ := Aside0.mk (blk_below (g := gb405) (o := .cells #[.slice (some ad407) l0_0.length c0_0] 29 (0, 0)) (by (with_reducible repeat (first | refine blk_drewN ?_ _ | refine blk_drew ?_ | refine blk_alloc ?_ _)); refine blk_far ?_ NB405_408.out _; (with_reducible repeat (first | refine blk_drewN ?_ _ | refine blk_drew ?_ | refine blk_alloc ?_ _)); refine blk_far ?_ NB405_408.out _; (with_reducible repeat (first | refine blk_drewN ?_ _ | refine blk_drew ?_ | refine blk_alloc ?_ _)); refine blk_far ?_ NB405_408.out _; (with_reducible repeat (first | refine blk_drewN ?_ _ | refine blk_drew ?_ | refine blk_alloc ?_ _)); refine blk_far ?_ NB405_408.out _; (with_reducible repeat (first | refine blk_drewN ?_ _ | refine blk_drew ?_ | refine blk_alloc ?_ _)); refine blk_far ?_ NB405_408.out _; (with_reducible repeat (first | refine blk_drewN ?_ _ | refine blk_drew ?_ | refine blk_alloc ?_ _)); refine blk_far ?_ NB405_408.out _; (with_reducible repeat (first | refine blk_drewN ?_ _ | refine blk_drew ?_ | refine blk_alloc ?_ _)); refine blk_far ?_ NB405_408.out _; (with_reducible repeat (first | refine blk_drewN ?_ _ | refine blk_drew ?_ | refine blk_alloc ?_ _)); refine blk_far ?_ NB405_408.out _; (with_reducible repeat (first | refine blk_drewN ?_ _ | refine blk_drew ?_ | refine blk_alloc ?_ _)); exact BK405.out) hb); have n2_ := Aside0.mk (blk_below (g := gb408) (o := .cells #[.int .i64 ((rd_T68 l0_0 x14_1).f0), .int .i64 ((rd_T68 l0_0 x14_1).f1), .int .i64 ((rd_T68 l0_0 x14_1).f2), .int .i64 ((rd_T68 l0_0 x14_1).f3.f0), .int .i64 ((rd_T68 l0_0 x14_1).f3.f1), .int .i64 ((rd_T68 l0_0 x14_1).f4.f0), .int .i64 ((rd_T68 l0_0 x14_1).f4.f1), .slice A407_7 ((rd_T68 l0_0 x14_1).f5).length c407_7] 68 (0, 0)) (by (with_reducible repeat (first | refine blk_drewN ?_ _ | refine blk_drew ?_ | refine blk_alloc ?_ _)); refine blk_put (cs := #[.int .i64 ((rd_T68 l0_0 x14_1).f0), .int .i64 ((rd_T68 l0_0 x14_1).f1), .int .i64 ((rd_T68 l0_0 x14_1).f2), .int .i64 ((rd_T68 l0_0 x14_1).f3.f0), .int .i64 ((rd_T68 l0_0 x14_1).f3.f1), .int .i64 ((rd_T68 l0_0 x14_1).f4.f0), .int .i64 ((rd_T68 l0_0 x14_1).f4.f1), .slice none 0 0]) ?_ 7 _ rfl; (with_reducible repeat (first | refine blk_drewN ?_ _ | refine blk_drew ?_ | refine blk_alloc ?_ _)); refine blk_put (cs := #[.int .i64 ((rd_T68 l0_0 x14_1).f0), .int .i64 ((rd_T68 l0_0 x14_1).f1), .int .i64 ((rd_T68 l0_0 x14_1).f2), .int .i64 ((rd_T68 l0_0 x14_1).f3.f0), .int .i64 ((rd_T68 l0_0 x14_1).f3.f1), .int .i64 ((rd_T68 l0_0 x14_1).f4.f0), .int .i64 0, .slice none 0 0]) ?_ 6 _ rfl; (with_reducible repeat (first | refine blk_drewN ?_ _ | refine blk_drew ?_ | refine blk_alloc ?_ _)); refine blk_put (cs := #[.int .i64 ((rd_T68 l0_0 x14_1).f0), .int .i64 ((rd_T68 l0_0 x14_1).f1), .int .i64 ((rd_T68 l0_0 x14_1).f2), .int .i64 ((rd_T68 l0_0 x14_1).f3.f0), .int .i64 ((rd_T68 l0_0 x14_1).f3.f1), .int .i64 0, .int .i64 0, .slice none 0 0]) ?_ 5 _ rfl; (with_reducible repeat (first | refine blk_drewN ?_ _ | refine blk_drew ?_ | refine blk_alloc ?_ _)); refine blk_put (cs := #[.int .i64 ((rd_T68 l0_0 x14_1).f0), .int .i64 ((rd_T68 l0_0 x14_1).f1), .int .i64 ((rd_T68 l0_0 x14_1).f2), .int .i64 ((rd_T68 l0_0 x14_1).f3.f0), .int .i64 0, .int .i64 0, .int .i64 0, .slice none 0 0]) ?_ 4 _ rfl; (with_reducible repeat (first | refine blk_drewN ?_ _ | refine blk_drew ?_ | refine blk_alloc ?_ _)); refine blk_put (cs := #[.int .i64 ((rd_T68 l0_0 x14_1).f0), .int .i64 ((rd_T68 l0_0 x14_1).f1), .int .i64 ((rd_T68 l0_0 x14_1).f2), .int .i64 0, .int .i64 0, .int .i64 0, .int .i64 0, .slice none 0 0]) ?_ 3 _ rfl; (with_reducible repeat (first | refine blk_drewN ?_ _ | refine blk_drew ?_ | refine blk_alloc ?_ _)); refine blk_put (cs := #[.int .i64 ((rd_T68 l0_0 x14_1).f0), .int .i64 ((rd_T68 l0_0 x14_1).f1), .int .i64 0, .int .i64 0, .int .i64 0, .int .i64 0, .int .i64 0, .slice none 0 0]) ?_ 2 _ rfl; (with_reducible repeat (first | refine blk_drewN ?_ _ | refine blk_drew ?_ | refine blk_alloc ?_ _)); refine blk_put (cs := #[.int .i64 ((rd_T68 l0_0 x14_1).f0), .int .i64 0, .int .i64 0, .int .i64 0, .int .i64 0, .int .i64 0, .int .i64 0, .slice none 0 0]) ?_ 1 _ rfl; (with_reducible repeat (first | refine blk_drewN ?_ _ | refine blk_drew ?_ | refine blk_alloc ?_ _)); refine blk_put (cs := #[.int .i64 0, .int .i64 0, .int .i64 0, .int .i64 0, .int .i64 0, .int .i64 0, .int .i64 0, .slice none 0 0]) ?_ 0 _ rfl; (with_reducible repeat (first | refine blk_drewN ?_ _ | refine blk_drew ?_ | refine blk_alloc ?_ _)); exact BK408.out) hb); have n3_ := Aside0.mk (below_step (by repeat (first | (with_reducible first | exact HB.out | apply below_alloc | apply pw_below_drewN | apply below_drew1 | refine below_set ?_ GE405.out | refine below_set ?_ GE408.out) | exact HB.out)) hb); clear HO_3; clear BK405; clear BK408; clear HB; have HO_3 := n0_; have BK405 := n1_; have BK408 := n2_; have HB := n3_; clear n0_ n1_ n2_ n3_; (try clear hb); (try clear hb2); (try clear hk); (try clear hi)) | ((with_reducible refine gate_dst (N := 6) rfl ?_); refine box_event ?hg (N := 6) ?hd (cs := #[.int .i64 0, .int .i64 0, .int .i64 0, .int .i64 0, .int .i64 0]) (t := 45) ?hr ?_; (case hd => rfl); (case hg => rfl); (case hr => first | (go_simp; done) | (go_simp; rfl)); intro gb415 hg w42 hbox hb; have n0_ := Aside0.mk (Kd.R_below (Kd.R_elderB (by (with_reducible repeat (first | apply Kd.R_alloc | apply Kd.R_drewN | apply Kd.R_drew)); exact HO_3.out) gb415 (Nat.le_of_eq hg.symm)) hb); have n1_ := Aside0.mk (blk_below (g := gb405) (o := .cells #[.slice (some ad407) l0_0.length c0_0] 29 (0, 0)) (by (with_reducible repeat (first | refine blk_drewN ?_ _ | refine blk_drew ?_ | refine blk_alloc ?_ _)); exact BK405.out) hb); have n2_ := Aside0.mk (blk_below (g := gb408) (o := .cells #[.int .i64 ((rd_T68 l0_0 x14_1).f0), .int .i64 ((rd_T68 l0_0 x14_1).f1), .int .i64 ((rd_T68 l0_0 x14_1).f2), .int .i64 ((rd_T68 l0_0 x14_1).f3.f0), .int .i64 ((rd_T68 l0_0 x14_1).f3.f1), .int .i64 ((rd_T68 l0_0 x14_1).f4.f0), .int .i64 ((rd_T68 l0_0 x14_1).f4.f1), .slice A407_7 ((rd_T68 l0_0 x14_1).f5).length c407_7] 68 (0, 0)) (by (with_reducible repeat (first | refine blk_drewN ?_ _ | refine blk_drew ?_ | refine blk_alloc ?_ _)); exact BK408.out) hb); have n3_ := Aside0.mk (below_step (by repeat (first | (with_reducible first | exact HB.out | apply below_alloc | apply pw_below_drewN | apply below_drew1 | refine below_set ?_ GE405.out | refine below_set ?_ GE408.out) | exact HB.out)) hb); have n4_ := Aside0.mk (hbox); have n5_ := Aside0.mk ((by rw [hg]; exact (below_size (by repeat (first | (with_reducible first | exact HB.out | apply below_alloc | apply pw_below_drewN | apply below_drew1 | refine below_set ?_ GE405.out | refine below_set ?_ GE408.out) | exact HB.out))) : w.heap.size ≤ gb415)); have n6_ := Aside0.mk ((by rw [hg]; exact (below_size (by repeat (first | (with_reducible first | exact HB.out | apply below_alloc | apply pw_below_drewN | apply below_drew1 | refine below_set ?_ GE405.out | refine below_set ?_ GE408.out) | exact HB.out))) : w.heap.size ≤ gb415)); have n7_ := Aside0.mk ((by rw [hg]; exact Nat.ne_of_lt (blk_lt (g := gb405) (o := .cells #[.slice (some ad407) l0_0.length c0_0] 29 (0, 0)) (by (with_reducible repeat (first | refine blk_drewN ?_ _ | refine blk_drew ?_ | refine blk_alloc ?_ _)); exact BK405.out)) : gb405 ≠ gb415)); have n8_ := Aside0.mk ((by rw [hg]; exact Nat.ne_of_gt (blk_lt (g := gb405) (o := .cells #[.slice (some ad407) l0_0.length c0_0] 29 (0, 0)) (by (with_reducible repeat (first | refine blk_drewN ?_ _ | refine blk_drew ?_ | refine blk_alloc ?_ _)); exact BK405.out)) : gb415 ≠ gb405)); have n9_ := Aside0.mk ((by rw [hg]; exact Nat.ne_of_lt (blk_lt (g := gb408) (o := .cells #[.int .i64 ((rd_T68 l0_0 x14_1).f0), .int .i64 ((rd_T68 l0_0 x14_1).f1), .int .i64 ((rd_T68 l0_0 x14_1).f2), .int .i64 ((rd_T68 l0_0 x14_1).f3.f0), .int .i64 ((rd_T68 l0_0 x14_1).f3.f1), .int .i64 ((rd_T68 l0_0 x14_1).f4.f0), .int .i64 ((rd_T68 l0_0 x14_1).f4.f1), .slice A407_7 ((rd_T68 l0_0 x14_1).f5).length c407_7] 68 (0, 0)) (by (with_reducible repeat (first | refine blk_drewN ?_ _ | refine blk_drew ?_ | refine blk_alloc ?_ _)); exact BK408.out)) : gb408 ≠ gb415)); have n10_ := Aside0.mk ((by rw [hg]; exact Nat.ne_of_gt (blk_lt (g := gb408) (o := .cells #[.int .i64 ((rd_T68 l0_0 x14_1).f0), .int .i64 ((rd_T68 l0_0 x14_1).f1), .int .i64 ((rd_T68 l0_0 x14_1).f2), .int .i64 ((rd_T68 l0_0 x14_1).f3.f0), .int .i64 ((rd_T68 l0_0 x14_1).f3.f1), .int .i64 ((rd_T68 l0_0 x14_1).f4.f0), .int .i64 ((rd_T68 l0_0 x14_1).f4.f1), .slice A407_7 ((rd_T68 l0_0 x14_1).f5).length c407_7] 68 (0, 0)) (by (with_reducible repeat (first | refine blk_drewN ?_ _ | refine blk_drew ?_ | refine blk_alloc ?_ _)); exact BK408.out)) : gb415 ≠ gb408)); clear HO_3; clear BK405; clear BK408; clear HB; have HO_3 := n0_; have BK405 := n1_; have BK408 := n2_; have HB := n3_; have BK415 := n4_; have GW415 := n5_; have GE415 := n6_; have NB405_415 := n7_; have NB415_405 := n8_; have NB408_415 := n9_; have NB415_408 := n10_; clear n0_ n1_ n2_ n3_ n4_ n5_ n6_ n7_ n8_ n9_ n10_; clear hb hbox hg; have hnb43 := NB415_405.out; have hnc43 := NB405_415.out; have hnb44 := NB415_408.out; have hnc44 := NB408_415.out; obtain ⟨hcz45_0, hcz45_1, hcz45_2, hcz45_3, hcz45_4⟩ := cells5 BK415.out; have hfz45_0 := blk_frozen BK415.out 0; have hfz45_1 := blk_frozen BK415.out 1; have hfz45_2 := blk_frozen BK415.out 2; have hfz45_3 := blk_frozen BK415.out 3; have hfz45_4 := blk_frozen BK415.out 4))
        go_roundg k1
        case measure => have := HK1.out; omega
        case rel => exact ⟨(x3_1), (wrap64 (x14_1 + 1)), (by first | rfl | (simp; done) | (simp [*]; done)), H', ⟨by have := HK1.out; omega⟩, ⟨by (with_reducible repeat (first | apply Kd.R_alloc | apply Kd.R_drewN | apply Kd.R_drew)); exact Kd.R_mono (Kd.R_far (p := ⟨gb415, 4, none⟩) (Kd.R_far (p := ⟨gb415, 3, none⟩) (Kd.R_far (p := ⟨gb415, 2, none⟩) (Kd.R_far (p := ⟨gb415, 1, none⟩) (Kd.R_far (p := ⟨gb415, 0, none⟩) (Kd.R_mono HO_3.out (fun k_ hk => (⟨hk, hk.2⟩ : _ ∧ k_ ≠ gb415))) (fun _ hk => hk.2) (.int .i64 t409)) (fun _ hk => hk.2) (.int .i64 t410)) (fun _ hk => hk.2) (.int .i64 t411)) (fun _ hk => hk.2) (.int .i64 t412)) (fun _ hk => hk.2) (.int .i64 t413)) (fun _ hk => trivial)⟩, ⟨by (with_reducible repeat (first | refine blk_drewN ?_ _ | refine blk_drew ?_ | refine blk_alloc ?_ _)); refine blk_far ?_ NB405_415.out _; (with_reducible repeat (first | refine blk_drewN ?_ _ | refine blk_drew ?_ | refine blk_alloc ?_ _)); refine blk_far ?_ NB405_415.out _; (with_reducible repeat (first | refine blk_drewN ?_ _ | refine blk_drew ?_ | refine blk_alloc ?_ _)); refine blk_far ?_ NB405_415.out _; (with_reducible repeat (first | refine blk_drewN ?_ _ | refine blk_drew ?_ | refine blk_alloc ?_ _)); refine blk_far ?_ NB405_415.out _; (with_reducible repeat (first | refine blk_drewN ?_ _ | refine blk_drew ?_ | refine blk_alloc ?_ _)); refine blk_far ?_ NB405_415.out _; (with_reducible repeat (first | refine blk_drewN ?_ _ | refine blk_drew ?_ | refine blk_alloc ?_ _)); exact BK405.out⟩, ⟨by repeat (first | (with_reducible first | exact HB.out | apply below_alloc | apply pw_below_drewN | apply below_drew1 | refine below_set ?_ GE405.out | refine below_set ?_ GE408.out | refine below_set ?_ GE415.out) | exact HB.out)⟩⟩
      ·rw [if_neg c10] at H
       exact absurd H (by simp)
     ·rw [if_neg c9] at H
      exact absurd H (by simp)
    ·rw [if_neg c8] at H
     have c8b0 : decide (x14_1 < (l0_0.length : Int)) = false := decide_eq_false c8
     clear c8
     obtain rfl := Option.some.inj H
     go_wp2
     go_ret
     exact ⟨_, by first | rfl | (simp [errW_none, errW_some] <;> rfl) | (simp [*, errW_none, errW_some] <;> rfl), by (with_reducible repeat (first | apply Kd.R_alloc | apply Kd.R_drewN | apply Kd.R_drew)); exact HO_3.out, by repeat (first | (with_reducible first | exact HB.out | apply below_alloc | apply pw_below_drewN | apply below_drew1 | refine below_set ?_ GE405.out) | exact HB.out)⟩
 ·replace c3 := Bool.eq_false_iff.mpr c3
  subst c3
  have H1 : (some ([] : List (S45))) = some r := by rw [if_neg (show ¬ (false = true) by decide)] at H; exact H
  clear H
  have H := H1
  clear H1
  obtain rfl := Option.some.inj H
  go_enter Try.func32, Try.ntmps32
  go_wp2_with (first | ((with_reducible refine gate_dst (N := 1) rfl ?_); refine box_event ?hg (N := 1) ?hd (cs := #[.slice A0_0 l0_0.length c0_0]) (t := 29) ?hr ?_; (case hd => rfl); (case hg => rfl); (case hr => first | (go_simp; done) | (go_simp; rfl)); intro gb405 hg w46 hbox hb; have n_ := boxed (bel HB.out) hb hbox hg; clear HB hb hbox hg; obtain ⟨HB, BK405, GW405, GE405⟩ := n_; have hcz47_0 : w46.cell? ⟨gb405, 0, none⟩ = some (.slice A0_0 l0_0.length c0_0) := (blk_cell BK405.out 0).trans rfl; have hfz47_0 := blk_frozen BK405.out 0) | ((with_reducible refine gate_callee (f := 63) rfl ?_); refine goesL_ (some 9) rfl rfl Try.func63 (by kernel_rfl) rfl #[.agg #[.slice A0_0 l0_0.length c0_0]] rfl (by (try simp only [List.map_toArray, List.map_cons, List.map_nil]); first | done | rfl | (simp only [List.length_drop, List.length_take]; rfl)) ?_; (with_reducible refine (impl_ProgOk.calls _ _ l0_0 false _ ?side1 ?side2 A2.out).mono ?_); (case side1 => repeat (first | exact (Kd.C_below HR0_0.out HB.out) | (with_reducible refine Kd.C_alloc ?_ _) | (with_reducible refine Kd.C_drewN ?_ _) | (with_reducible refine Kd.C_drew ?_))); (case side2 => exact HC0_0.out); rintro e w48 ⟨rfl, hb⟩; refine ⟨_, rfl, ?_⟩; have n0_ := Aside0.mk (blk_below (g := gb405) (o := .cells #[.slice A0_0 l0_0.length c0_0] 29 (0, 0)) (by (with_reducible repeat (first | refine blk_drewN ?_ _ | refine blk_drew ?_ | refine blk_alloc ?_ _)); exact BK405.out) hb); have n1_ := Aside0.mk (below_step (by repeat (first | (with_reducible first | exact HB.out | apply below_alloc | apply pw_below_drewN | apply below_drew1 | refine below_set ?_ GE405.out) | exact HB.out)) hb); clear BK405; clear HB; have BK405 := n0_; have HB := n1_; clear n0_ n1_; (try clear hb); (try clear hb2); (try clear hk); (try clear hi)))
  go_ret
  exact ⟨_, by first | rfl | (simp [errW_none, errW_some] <;> rfl) | (simp [*, errW_none, errW_some] <;> rfl), by first | exact Kd.R_nil _ _ _ _ _ | exact Kd.N_nil _ _ _ _ _ | exact Kd.V_nil _ _ _ _ _ | exact Kd.Q_nil _ _ _ _ _ | exact Kd.S_nil _ _ _ _ _, by repeat (first | (with_reducible first | exact HB.out | apply below_alloc | apply pw_below_drewN | apply below_drew1 | refine below_set ?_ GE405.out) | exact HB.out)⟩

/-! ### laws_eqExpr: function 81 -/
def laws_eqExpr.f (a0_0 : Int) (a0_1 : Int) (a0_2 : Int) (a0_3 : Int) (a0_4 : Int) (a1_0 : Int) (a1_1 : Int) (a1_2 : Int) (a1_3 : Int) (a1_4 : Int) : Option (Bool) := if a0_0 = a1_0 then ((laws_eqOpnd.f a0_1 a0_2 a1_1 a1_2).bind fun t422 => (if t422 = true then ((laws_eqOpnd.f a0_3 a0_4 a1_3 a1_4).bind fun t423 => (if t423 = true then (some true) else (some false))) else (some false))) else (some false)
set_option maxHeartbeats 8000000 in
set_option maxRecDepth 100000 in
theorem laws_eqExpr.calls (a0_0 : Int) (a0_1 : Int) (a0_2 : Int) (a0_3 : Int) (a0_4 : Int) (a1_0 : Int) (a1_1 : Int) (a1_2 : Int) (a1_3 : Int) (a1_4 : Int) (r : Bool) (w : World) (h : laws_eqExpr.f a0_0 a0_1 a0_2 a0_3 a0_4 a1_0 a1_1 a1_2 a1_3 a1_4 = some r) :
  Calls Try.prog 81 #[.agg #[.int .i64 a0_0, .int .i64 a0_1, .int .i64 a0_2, .int .i64 a0_3, .int .i64 a0_4], .agg #[.int .i64 a1_0, .int .i64 a1_1, .int .i64 a1_2, .int .i64 a1_3, .int .i64 a1_4]] w fun e w' => e = .returned (.bool r) ∧ Below w.heap.size w w' := by
 have hu45 := Try.underlying45
 have hu43 := Try.underlying43
 have HB := Aside0.mk (Below.refl w.heap.size w)
 have H : (if a0_0 = a1_0 then ((laws_eqOpnd.f a0_1 a0_2 a1_1 a1_2).bind fun t422 => (if t422 = true then ((laws_eqOpnd.f a0_3 a0_4 a1_3 a1_4).bind fun t423 => (if t423 = true then (some true) else (some false))) else (some false))) else (some false)) = some r := h
 clear h
 by_cases c3 : a0_0 = a1_0
 ·rw [if_pos c3] at H
  have c3b0 : (a0_0 == a1_0) = true := beq_iff_eq.mpr c3
  have c3b1 : (a0_0 != a1_0) = false := bne_eq_false_iff_eq.mpr c3
  clear c3
  replace H := Option.bind_eq_some_iff.mp H
  obtain ⟨t422, A40, H⟩ := H
  replace H : (if t422 = true then ((laws_eqOpnd.f a0_3 a0_4 a1_3 a1_4).bind fun t423 => (if t423 = true then (some true) else (some false))) else (some false)) = some r := H
  have A4 := Aside0.mk A40
  clear A40
  by_cases c5 : t422 = true
  ·subst c5
   have H1 : ((laws_eqOpnd.f a0_3 a0_4 a1_3 a1_4).bind fun t423 => (if t423 = true then (some true) else (some false))) = some r := by rw [if_pos rfl] at H; exact H
   clear H
   have H := H1
   clear H1
   replace H := Option.bind_eq_some_iff.mp H
   obtain ⟨t423, A60, H⟩ := H
   replace H : (if t423 = true then (some true) else (some false)) = some r := H
   have A6 := Aside0.mk A60
   clear A60
   by_cases c7 : t423 = true
   ·subst c7
    have H1 : (some true) = some r := by rw [if_pos rfl] at H; exact H
    clear H
    have H := H1
    clear H1
    obtain rfl := Option.some.inj H
    go_enter Try.func81, Try.ntmps81
    go_wp2_with (first | ((with_reducible refine gate_dst (N := 2) rfl ?_); refine box_event ?hg (N := 2) ?hd (cs := #[.int .i64 a0_0, .int .i64 a0_1, .int .i64 a0_2, .int .i64 a0_3, .int .i64 a0_4]) (t := 45) ?hr ?_; (case hd => rfl); (case hg => rfl); (case hr => first | (go_simp; done) | (go_simp; rfl)); intro gb420 hg w8 hbox hb; have n_ := boxed (bel HB.out) hb hbox hg; clear HB hb hbox hg; obtain ⟨HB, BK420, GW420, GE420⟩ := n_) | ((with_reducible refine gate_dst (N := 3) rfl ?_); refine box_event ?hg (N := 3) ?hd (cs := #[.int .i64 a1_0, .int .i64 a1_1, .int .i64 a1_2, .int .i64 a1_3, .int .i64 a1_4]) (t := 45) ?hr ?_; (case hd => rfl); (case hg => rfl); (case hr => first | (go_simp; done) | (go_simp; rfl)); intro gb421 hg w9 hbox hb; have n0_ := Aside0.mk (blk_below (g := gb420) (o := .cells #[.int .i64 a0_0, .int .i64 a0_1, .int .i64 a0_2, .int .i64 a0_3, .int .i64 a0_4] 45 (0, 0)) (by (with_reducible repeat (first | refine blk_drewN ?_ _ | refine blk_drew ?_ | refine blk_alloc ?_ _)); exact BK420.out) hb); have n1_ := Aside0.mk (below_step (by repeat (first | (with_reducible first | exact HB.out | apply below_alloc | apply pw_below_drewN | apply below_drew1 | refine below_set ?_ GE420.out) | exact HB.out)) hb); have n2_ := Aside0.mk (hbox); have n3_ := Aside0.mk ((by rw [hg]; exact (below_size (by repeat (first | (with_reducible first | exact HB.out | apply below_alloc | apply pw_below_drewN | apply below_drew1 | refine below_set ?_ GE420.out) | exact HB.out))) : w.heap.size ≤ gb421)); have n4_ := Aside0.mk ((by rw [hg]; exact (below_size (by repeat (first | (with_reducible first | exact HB.out | apply below_alloc | apply pw_below_drewN | apply below_drew1 | refine below_set ?_ GE420.out) | exact HB.out))) : w.heap.size ≤ gb421)); have n5_ := Aside0.mk ((by rw [hg]; exact Nat.ne_of_lt (blk_lt (g := gb420) (o := .cells #[.int .i64 a0_0, .int .i64 a0_1, .int .i64 a0_2, .int .i64 a0_3, .int .i64 a0_4] 45 (0, 0)) (by (with_reducible repeat (first | refine blk_drewN ?_ _ | refine blk_drew ?_ | refine blk_alloc ?_ _)); exact BK420.out)) : gb420 ≠ gb421)); have n6_ := Aside0.mk ((by rw [hg]; exact Nat.ne_of_gt (blk_lt (g := gb420) (o := .cells #[.int .i64 a0_0, .int .i64 a0_1, .int .i64 a0_2, .int .i64 a0_3, .int .i64 a0_4] 45 (0, 0)) (by (with_reducible repeat (first | refine blk_drewN ?_ _ | refine blk_drew ?_ | refine blk_alloc ?_ _)); exact BK420.out)) : gb421 ≠ gb420)); clear BK420; clear HB; have BK420 := n0_; have HB := n1_; have BK421 := n2_; have GW421 := n3_; have GE421 := n4_; have NB420_421 := n5_; have NB421_420 := n6_; clear n0_ n1_ n2_ n3_ n4_ n5_ n6_; clear hb hbox hg; have hnb10 := NB420_421.out; have hnc10 := NB421_420.out; obtain ⟨hcz11_0, hcz11_1, hcz11_2, hcz11_3, hcz11_4⟩ := cells5 BK420.out; obtain ⟨hcz12_0, hcz12_1, hcz12_2, hcz12_3, hcz12_4⟩ := cells5 BK421.out) | ((with_reducible refine gate_callee (f := 110) rfl ?_); refine goesL_ (some 14) rfl rfl Try.func110 (by kernel_rfl) rfl #[.agg #[.int .i64 a0_1, .int .i64 a0_2], .agg #[.int .i64 a1_1, .int .i64 a1_2]] rfl (by (try simp only [List.map_toArray, List.map_cons, List.map_nil]); first | done | rfl | (simp only [List.length_drop, List.length_take]; rfl)) ?_; (with_reducible refine (laws_eqOpnd.calls a0_1 a0_2 a1_1 a1_2 true _ A4.out).mono ?_); rintro e w13 ⟨rfl, hb⟩; refine ⟨_, rfl, ?_⟩; have n0_ := Aside0.mk (blk_below (g := gb420) (o := .cells #[.int .i64 a0_0, .int .i64 a0_1, .int .i64 a0_2, .int .i64 a0_3, .int .i64 a0_4] 45 (0, 0)) (by (with_reducible repeat (first | refine blk_drewN ?_ _ | refine blk_drew ?_ | refine blk_alloc ?_ _)); exact BK420.out) hb); have n1_ := Aside0.mk (blk_below (g := gb421) (o := .cells #[.int .i64 a1_0, .int .i64 a1_1, .int .i64 a1_2, .int .i64 a1_3, .int .i64 a1_4] 45 (0, 0)) (by (with_reducible repeat (first | refine blk_drewN ?_ _ | refine blk_drew ?_ | refine blk_alloc ?_ _)); exact BK421.out) hb); have n2_ := Aside0.mk (below_step (by repeat (first | (with_reducible first | exact HB.out | apply below_alloc | apply pw_below_drewN | apply below_drew1 | refine below_set ?_ GE420.out | refine below_set ?_ GE421.out) | exact HB.out)) hb); clear BK420; clear BK421; clear HB; have BK420 := n0_; have BK421 := n1_; have HB := n2_; clear n0_ n1_ n2_; (try clear hb); (try clear hb2); (try clear hk); (try clear hi); obtain ⟨hcz14_0, hcz14_1, hcz14_2, hcz14_3, hcz14_4⟩ := cells5 BK420.out; obtain ⟨hcz15_0, hcz15_1, hcz15_2, hcz15_3, hcz15_4⟩ := cells5 BK421.out) | ((with_reducible refine gate_callee (f := 110) rfl ?_); refine goesL_ (some 20) rfl rfl Try.func110 (by kernel_rfl) rfl #[.agg #[.int .i64 a0_3, .int .i64 a0_4], .agg #[.int .i64 a1_3, .int .i64 a1_4]] rfl (by (try simp only [List.map_toArray, List.map_cons, List.map_nil]); first | done | rfl | (simp only [List.length_drop, List.length_take]; rfl)) ?_; (with_reducible refine (laws_eqOpnd.calls a0_3 a0_4 a1_3 a1_4 true _ A6.out).mono ?_); rintro e w16 ⟨rfl, hb⟩; refine ⟨_, rfl, ?_⟩; have n0_ := Aside0.mk (blk_below (g := gb420) (o := .cells #[.int .i64 a0_0, .int .i64 a0_1, .int .i64 a0_2, .int .i64 a0_3, .int .i64 a0_4] 45 (0, 0)) (by (with_reducible repeat (first | refine blk_drewN ?_ _ | refine blk_drew ?_ | refine blk_alloc ?_ _)); exact BK420.out) hb); have n1_ := Aside0.mk (blk_below (g := gb421) (o := .cells #[.int .i64 a1_0, .int .i64 a1_1, .int .i64 a1_2, .int .i64 a1_3, .int .i64 a1_4] 45 (0, 0)) (by (with_reducible repeat (first | refine blk_drewN ?_ _ | refine blk_drew ?_ | refine blk_alloc ?_ _)); exact BK421.out) hb); have n2_ := Aside0.mk (below_step (by repeat (first | (with_reducible first | exact HB.out | apply below_alloc | apply pw_below_drewN | apply below_drew1 | refine below_set ?_ GE420.out | refine below_set ?_ GE421.out) | exact HB.out)) hb); clear BK420; clear BK421; clear HB; have BK420 := n0_; have BK421 := n1_; have HB := n2_; clear n0_ n1_ n2_; (try clear hb); (try clear hb2); (try clear hk); (try clear hi)))
    go_ret
    exact ⟨by first | rfl | (simp [errW_none, errW_some] <;> rfl) | (simp [*, errW_none, errW_some] <;> rfl), by repeat (first | (with_reducible first | exact HB.out | apply below_alloc | apply pw_below_drewN | apply below_drew1 | refine below_set ?_ GE420.out | refine below_set ?_ GE421.out) | exact HB.out)⟩
   ·replace c7 := Bool.eq_false_iff.mpr c7
    subst c7
    have H1 : (some false) = some r := by rw [if_neg (show ¬ (false = true) by decide)] at H; exact H
    clear H
    have H := H1
    clear H1
    obtain rfl := Option.some.inj H
    go_enter Try.func81, Try.ntmps81
    go_wp2_with (first | ((with_reducible refine gate_dst (N := 2) rfl ?_); refine box_event ?hg (N := 2) ?hd (cs := #[.int .i64 a0_0, .int .i64 a0_1, .int .i64 a0_2, .int .i64 a0_3, .int .i64 a0_4]) (t := 45) ?hr ?_; (case hd => rfl); (case hg => rfl); (case hr => first | (go_simp; done) | (go_simp; rfl)); intro gb420 hg w17 hbox hb; have n_ := boxed (bel HB.out) hb hbox hg; clear HB hb hbox hg; obtain ⟨HB, BK420, GW420, GE420⟩ := n_) | ((with_reducible refine gate_dst (N := 3) rfl ?_); refine box_event ?hg (N := 3) ?hd (cs := #[.int .i64 a1_0, .int .i64 a1_1, .int .i64 a1_2, .int .i64 a1_3, .int .i64 a1_4]) (t := 45) ?hr ?_; (case hd => rfl); (case hg => rfl); (case hr => first | (go_simp; done) | (go_simp; rfl)); intro gb421 hg w18 hbox hb; have n0_ := Aside0.mk (blk_below (g := gb420) (o := .cells #[.int .i64 a0_0, .int .i64 a0_1, .int .i64 a0_2, .int .i64 a0_3, .int .i64 a0_4] 45 (0, 0)) (by (with_reducible repeat (first | refine blk_drewN ?_ _ | refine blk_drew ?_ | refine blk_alloc ?_ _)); exact BK420.out) hb); have n1_ := Aside0.mk (below_step (by repeat (first | (with_reducible first | exact HB.out | apply below_alloc | apply pw_below_drewN | apply below_drew1 | refine below_set ?_ GE420.out) | exact HB.out)) hb); have n2_ := Aside0.mk (hbox); have n3_ := Aside0.mk ((by rw [hg]; exact (below_size (by repeat (first | (with_reducible first | exact HB.out | apply below_alloc | apply pw_below_drewN | apply below_drew1 | refine below_set ?_ GE420.out) | exact HB.out))) : w.heap.size ≤ gb421)); have n4_ := Aside0.mk ((by rw [hg]; exact (below_size (by repeat (first | (with_reducible first | exact HB.out | apply below_alloc | apply pw_below_drewN | apply below_drew1 | refine below_set ?_ GE420.out) | exact HB.out))) : w.heap.size ≤ gb421)); have n5_ := Aside0.mk ((by rw [hg]; exact Nat.ne_of_lt (blk_lt (g := gb420) (o := .cells #[.int .i64 a0_0, .int .i64 a0_1, .int .i64 a0_2, .int .i64 a0_3, .int .i64 a0_4] 45 (0, 0)) (by (with_reducible repeat (first | refine blk_drewN ?_ _ | refine blk_drew ?_ | refine blk_alloc ?_ _)); exact BK420.out)) : gb420 ≠ gb421)); have n6_ := Aside0.mk ((by rw [hg]; exact Nat.ne_of_gt (blk_lt (g := gb420) (o := .cells #[.int .i64 a0_0, .int .i64 a0_1, .int .i64 a0_2, .int .i64 a0_3, .int .i64 a0_4] 45 (0, 0)) (by (with_reducible repeat (first | refine blk_drewN ?_ _ | refine blk_drew ?_ | refine blk_alloc ?_ _)); exact BK420.out)) : gb421 ≠ gb420)); clear BK420; clear HB; have BK420 := n0_; have HB := n1_; have BK421 := n2_; have GW421 := n3_; have GE421 := n4_; have NB420_421 := n5_; have NB421_420 := n6_; clear n0_ n1_ n2_ n3_ n4_ n5_ n6_; clear hb hbox hg; have hnb19 := NB420_421.out; have hnc19 := NB421_420.out; obtain ⟨hcz20_0, hcz20_1, hcz20_2, hcz20_3, hcz20_4⟩ := cells5 BK420.out; obtain ⟨hcz21_0, hcz21_1, hcz21_2, hcz21_3, hcz21_4⟩ := cells5 BK421.out) | ((with_reducible refine gate_callee (f := 110) rfl ?_); refine goesL_ (some 14) rfl rfl Try.func110 (by kernel_rfl) rfl #[.agg #[.int .i64 a0_1, .int .i64 a0_2], .agg #[.int .i64 a1_1, .int .i64 a1_2]] rfl (by (try simp only [List.map_toArray, List.map_cons, List.map_nil]); first | done | rfl | (simp only [List.length_drop, List.length_take]; rfl)) ?_; (with_reducible refine (laws_eqOpnd.calls a0_1 a0_2 a1_1 a1_2 true _ A4.out).mono ?_); rintro e w22 ⟨rfl, hb⟩; refine ⟨_, rfl, ?_⟩; have n0_ := Aside0.mk (blk_below (g := gb420) (o := .cells #[.int .i64 a0_0, .int .i64 a0_1, .int .i64 a0_2, .int .i64 a0_3, .int .i64 a0_4] 45 (0, 0)) (by (with_reducible repeat (first | refine blk_drewN ?_ _ | refine blk_drew ?_ | refine blk_alloc ?_ _)); exact BK420.out) hb); have n1_ := Aside0.mk (blk_below (g := gb421) (o := .cells #[.int .i64 a1_0, .int .i64 a1_1, .int .i64 a1_2, .int .i64 a1_3, .int .i64 a1_4] 45 (0, 0)) (by (with_reducible repeat (first | refine blk_drewN ?_ _ | refine blk_drew ?_ | refine blk_alloc ?_ _)); exact BK421.out) hb); have n2_ := Aside0.mk (below_step (by repeat (first | (with_reducible first | exact HB.out | apply below_alloc | apply pw_below_drewN | apply below_drew1 | refine below_set ?_ GE420.out | refine below_set ?_ GE421.out) | exact HB.out)) hb); clear BK420; clear BK421; clear HB; have BK420 := n0_; have BK421 := n1_; have HB := n2_; clear n0_ n1_ n2_; (try clear hb); (try clear hb2); (try clear hk); (try clear hi); obtain ⟨hcz23_0, hcz23_1, hcz23_2, hcz23_3, hcz23_4⟩ := cells5 BK420.out; obtain ⟨hcz24_0, hcz24_1, hcz24_2, hcz24_3, hcz24_4⟩ := cells5 BK421.out) | ((with_reducible refine gate_callee (f := 110) rfl ?_); refine goesL_ (some 20) rfl rfl Try.func110 (by kernel_rfl) rfl #[.agg #[.int .i64 a0_3, .int .i64 a0_4], .agg #[.int .i64 a1_3, .int .i64 a1_4]] rfl (by (try simp only [List.map_toArray, List.map_cons, List.map_nil]); first | done | rfl | (simp only [List.length_drop, List.length_take]; rfl)) ?_; (with_reducible refine (laws_eqOpnd.calls a0_3 a0_4 a1_3 a1_4 false _ A6.out).mono ?_); rintro e w25 ⟨rfl, hb⟩; refine ⟨_, rfl, ?_⟩; have n0_ := Aside0.mk (blk_below (g := gb420) (o := .cells #[.int .i64 a0_0, .int .i64 a0_1, .int .i64 a0_2, .int .i64 a0_3, .int .i64 a0_4] 45 (0, 0)) (by (with_reducible repeat (first | refine blk_drewN ?_ _ | refine blk_drew ?_ | refine blk_alloc ?_ _)); exact BK420.out) hb); have n1_ := Aside0.mk (blk_below (g := gb421) (o := .cells #[.int .i64 a1_0, .int .i64 a1_1, .int .i64 a1_2, .int .i64 a1_3, .int .i64 a1_4] 45 (0, 0)) (by (with_reducible repeat (first | refine blk_drewN ?_ _ | refine blk_drew ?_ | refine blk_alloc ?_ _)); exact BK421.out) hb); have n2_ := Aside0.mk (below_step (by repeat (first | (with_reducible first | exact HB.out | apply below_alloc | apply pw_below_drewN | apply below_drew1 | refine below_set ?_ GE420.out | refine below_set ?_ GE421.out) | exact HB.out)) hb); clear BK420; clear BK421; clear HB; have BK420 := n0_; have BK421 := n1_; have HB := n2_; clear n0_ n1_ n2_; (try clear hb); (try clear hb2); (try clear hk); (try clear hi)))
    go_ret
    exact ⟨by first | rfl | (simp [errW_none, errW_some] <;> rfl) | (simp [*, errW_none, errW_some] <;> rfl), by repeat (first | (with_reducible first | exact HB.out | apply below_alloc | apply pw_below_drewN | apply below_drew1 | refine below_set ?_ GE420.out | refine below_set ?_ GE421.out) | exact HB.out)⟩
  ·replace c5 := Bool.eq_false_iff.mpr c5
   subst c5
   have H1 : (some false) = some r := by rw [if_neg (show ¬ (false = true) by decide)] at H; exact H
   clear H
   have H := H1
   clear H1
   obtain rfl := Option.some.inj H
   go_enter Try.func81, Try.ntmps81
   go_wp2_with (first | ((with_reducible refine gate_dst (N := 2) rfl ?_); refine box_event ?hg (N := 2) ?hd (cs := #[.int .i64 a0_0, .int .i64 a0_1, .int .i64 a0_2, .int .i64 a0_3, .int .i64 a0_4]) (t := 45) ?hr ?_; (case hd => rfl); (case hg => rfl); (case hr => first | (go_simp; done) | (go_simp; rfl)); intro gb420 hg w26 hbox hb; have n_ := boxed (bel HB.out) hb hbox hg; clear HB hb hbox hg; obtain ⟨HB, BK420, GW420, GE420⟩ := n_) | ((with_reducible refine gate_dst (N := 3) rfl ?_); refine box_event ?hg (N := 3) ?hd (cs := #[.int .i64 a1_0, .int .i64 a1_1, .int .i64 a1_2, .int .i64 a1_3, .int .i64 a1_4]) (t := 45) ?hr ?_; (case hd => rfl); (case hg => rfl); (case hr => first | (go_simp; done) | (go_simp; rfl)); intro gb421 hg w27 hbox hb; have n0_ := Aside0.mk (blk_below (g := gb420) (o := .cells #[.int .i64 a0_0, .int .i64 a0_1, .int .i64 a0_2, .int .i64 a0_3, .int .i64 a0_4] 45 (0, 0)) (by (with_reducible repeat (first | refine blk_drewN ?_ _ | refine blk_drew ?_ | refine blk_alloc ?_ _)); exact BK420.out) hb); have n1_ := Aside0.mk (below_step (by repeat (first | (with_reducible first | exact HB.out | apply below_alloc | apply pw_below_drewN | apply below_drew1 | refine below_set ?_ GE420.out) | exact HB.out)) hb); have n2_ := Aside0.mk (hbox); have n3_ := Aside0.mk ((by rw [hg]; exact (below_size (by repeat (first | (with_reducible first | exact HB.out | apply below_alloc | apply pw_below_drewN | apply below_drew1 | refine below_set ?_ GE420.out) | exact HB.out))) : w.heap.size ≤ gb421)); have n4_ := Aside0.mk ((by rw [hg]; exact (below_size (by repeat (first | (with_reducible first | exact HB.out | apply below_alloc | apply pw_below_drewN | apply below_drew1 | refine below_set ?_ GE420.out) | exact HB.out))) : w.heap.size ≤ gb421)); have n5_ := Aside0.mk ((by rw [hg]; exact Nat.ne_of_lt (blk_lt (g := gb420) (o := .cells #[.int .i64 a0_0, .int .i64 a0_1, .int .i64 a0_2, .int .i64 a0_3, .int .i64 a0_4] 45 (0, 0)) (by (with_reducible repeat (first | refine blk_drewN ?_ _ | refine blk_drew ?_ | refine blk_alloc ?_ _)); exact BK420.out)) : gb420 ≠ gb421)); have n6_ := Aside0.mk ((by rw [hg]; exact Nat.ne_of_gt (blk_lt (g := gb420) (o := .cells #[.int .i64 a0_0, .int .i64 a0_1, .int .i64 a0_2, .int .i64 a0_3, .int .i64 a0_4] 45 (0, 0)) (by (with_reducible repeat (first | refine blk_drewN ?_ _ | refine blk_drew ?_ | refine blk_alloc ?_ _)); exact BK420.out)) : gb421 ≠ gb420)); clear BK420; clear HB; have BK420 := n0_; have HB := n1_; have BK421 := n2_; have GW421 := n3_; have GE421 := n4_; have NB420_421 := n5_; have NB421_420 := n6_; clear n0_ n1_ n2_ n3_ n4_ n5_ n6_; clear hb hbox hg; have hnb28 := NB420_421.out; have hnc28 := NB421_420.out; obtain ⟨hcz29_0, hcz29_1, hcz29_2, hcz29_3, hcz29_4⟩ := cells5 BK420.out; obtain ⟨hcz30_0, hcz30_1, hcz30_2, hcz30_3, hcz30_4⟩ := cells5 BK421.out) | ((with_reducible refine gate_callee (f := 110) rfl ?_); refine goesL_ (some 14) rfl rfl Try.func110 (by kernel_rfl) rfl #[.agg #[.int .i64 a0_1, .int .i64 a0_2], .agg #[.int .i64 a1_1, .int .i64 a1_2]] rfl (by (try simp only [List.map_toArray, List.map_cons, List.map_nil]); first | done | rfl | (simp only [List.length_drop, List.length_take]; rfl)) ?_; (with_reducible refine (laws_eqOpnd.calls a0_1 a0_2 a1_1 a1_2 false _ A4.out).mono ?_); rintro e w31 ⟨rfl, hb⟩; refine ⟨_, rfl, ?_⟩; have n0_ := Aside0.mk (blk_below (g := gb420) (o := .cells #[.int .i64 a0_0, .int .i64 a0_1, .int .i64 a0_2, .int .i64 a0_3, .int .i64 a0_4] 45 (0, 0)) (by (with_reducible repeat (first | refine blk_drewN ?_ _ | refine blk_drew ?_ | refine blk_alloc ?_ _)); exact BK420.out) hb); have n1_ := Aside0.mk (blk_below (g := gb421) (o := .cells #[.int .i64 a1_0, .int .i64 a1_1, .int .i64 a1_2, .int .i64 a1_3, .int .i64 a1_4] 45 (0, 0)) (by (with_reducible repeat (first | refine blk_drewN ?_ _ | refine blk_drew ?_ | refine blk_alloc ?_ _)); exact BK421.out) hb); have n2_ := Aside0.mk (below_step (by repeat (first | (with_reducible first | exact HB.out | apply below_alloc | apply pw_below_drewN | apply below_drew1 | refine below_set ?_ GE420.out | refine below_set ?_ GE421.out) | exact HB.out)) hb); clear BK420; clear BK421; clear HB; have BK420 := n0_; have BK421 := n1_; have HB := n2_; clear n0_ n1_ n2_; (try clear hb); (try clear hb2); (try clear hk); (try clear hi)))
   go_ret
   exact ⟨by first | rfl | (simp [errW_none, errW_some] <;> rfl) | (simp [*, errW_none, errW_some] <;> rfl), by repeat (first | (with_reducible first | exact HB.out | apply below_alloc | apply pw_below_drewN | apply below_drew1 | refine below_set ?_ GE420.out | refine below_set ?_ GE421.out) | exact HB.out)⟩
 ·rw [if_neg c3] at H
  have c3b0 : (a0_0 == a1_0) = false := beq_eq_false_iff_ne.mpr c3
  have c3b1 : (a0_0 != a1_0) = true := bne_iff_ne.mpr c3
  obtain rfl := Option.some.inj H
  go_enter Try.func81, Try.ntmps81
  go_wp2_with (first | ((with_reducible refine gate_dst (N := 2) rfl ?_); refine box_event ?hg (N := 2) ?hd (cs := #[.int .i64 a0_0, .int .i64 a0_1, .int .i64 a0_2, .int .i64 a0_3, .int .i64 a0_4]) (t := 45) ?hr ?_; (case hd => rfl); (case hg => rfl); (case hr => first | (go_simp; done) | (go_simp; rfl)); intro gb420 hg w32 hbox hb; have n_ := boxed (bel HB.out) hb hbox hg; clear HB hb hbox hg; obtain ⟨HB, BK420, GW420, GE420⟩ := n_) | ((with_reducible refine gate_dst (N := 3) rfl ?_); refine box_event ?hg (N := 3) ?hd (cs := #[.int .i64 a1_0, .int .i64 a1_1, .int .i64 a1_2, .int .i64 a1_3, .int .i64 a1_4]) (t := 45) ?hr ?_; (case hd => rfl); (case hg => rfl); (case hr => first | (go_simp; done) | (go_simp; rfl)); intro gb421 hg w33 hbox hb; have n0_ := Aside0.mk (blk_below (g := gb420) (o := .cells #[.int .i64 a0_0, .int .i64 a0_1, .int .i64 a0_2, .int .i64 a0_3, .int .i64 a0_4] 45 (0, 0)) (by (with_reducible repeat (first | refine blk_drewN ?_ _ | refine blk_drew ?_ | refine blk_alloc ?_ _)); exact BK420.out) hb); have n1_ := Aside0.mk (below_step (by repeat (first | (with_reducible first | exact HB.out | apply below_alloc | apply pw_below_drewN | apply below_drew1 | refine below_set ?_ GE420.out) | exact HB.out)) hb); have n2_ := Aside0.mk (hbox); have n3_ := Aside0.mk ((by rw [hg]; exact (below_size (by repeat (first | (with_reducible first | exact HB.out | apply below_alloc | apply pw_below_drewN | apply below_drew1 | refine below_set ?_ GE420.out) | exact HB.out))) : w.heap.size ≤ gb421)); have n4_ := Aside0.mk ((by rw [hg]; exact (below_size (by repeat (first | (with_reducible first | exact HB.out | apply below_alloc | apply pw_below_drewN | apply below_drew1 | refine below_set ?_ GE420.out) | exact HB.out))) : w.heap.size ≤ gb421)); have n5_ := Aside0.mk ((by rw [hg]; exact Nat.ne_of_lt (blk_lt (g := gb420) (o := .cells #[.int .i64 a0_0, .int .i64 a0_1, .int .i64 a0_2, .int .i64 a0_3, .int .i64 a0_4] 45 (0, 0)) (by (with_reducible repeat (first | refine blk_drewN ?_ _ | refine blk_drew ?_ | refine blk_alloc ?_ _)); exact BK420.out)) : gb420 ≠ gb421)); have n6_ := Aside0.mk ((by rw [hg]; exact Nat.ne_of_gt (blk_lt (g := gb420) (o := .cells #[.int .i64 a0_0, .int .i64 a0_1, .int .i64 a0_2, .int .i64 a0_3, .int .i64 a0_4] 45 (0, 0)) (by (with_reducible repeat (first | refine blk_drewN ?_ _ | refine blk_drew ?_ | refine blk_alloc ?_ _)); exact BK420.out)) : gb421 ≠ gb420)); clear BK420; clear HB; have BK420 := n0_; have HB := n1_; have BK421 := n2_; have GW421 := n3_; have GE421 := n4_; have NB420_421 := n5_; have NB421_420 := n6_; clear n0_ n1_ n2_ n3_ n4_ n5_ n6_; clear hb hbox hg; have hnb34 := NB420_421.out; have hnc34 := NB421_420.out; obtain ⟨hcz35_0, hcz35_1, hcz35_2, hcz35_3, hcz35_4⟩ := cells5 BK420.out; obtain ⟨hcz36_0, hcz36_1, hcz36_2, hcz36_3, hcz36_4⟩ := cells5 BK421.out))
  go_ret
  exact ⟨by first | rfl | (simp [errW_none, errW_some] <;> rfl) | (simp [*, errW_none, errW_some] <;> rfl), by repeat (first | (with_reducible first | exact HB.out | apply below_alloc | apply pw_below_drewN | apply below_drew1 | refine below_set ?_ GE420.out | refine below_set ?_ GE421.out) | exact HB.out)⟩

/-! ### laws_eqExprS: function 33 -/
def laws_eqExprS.l0 : Nat → List (S45) → List (S45) → Int → Option (Bool)
 | 0, _, _, _ => none
 | k + 1, x0, x1, x5 => if x5 < (x0.length : Int) then (if 0 ≤ x5 then (if x5 < (x1.length : Int) then ((laws_eqExpr.f ((rd_T45 x0 x5).f0) ((rd_T45 x0 x5).f1.f0) ((rd_T45 x0 x5).f1.f1) ((rd_T45 x0 x5).f2.f0) ((rd_T45 x0 x5).f2.f1) ((rd_T45 x1 x5).f0) ((rd_T45 x1 x5).f1.f0) ((rd_T45 x1 x5).f1.f1) ((rd_T45 x1 x5).f2.f0) ((rd_T45 x1 x5).f2.f1)).bind fun t426 => (if t426 = true then (laws_eqExprS.l0 k x0 x1 (wrap64 (x5 + 1))) else (some false))) else (none)) else (none)) else (some true)
def laws_eqExprS.f (k : Nat) (l0 : List (S45)) (l1 : List (S45)) : Option (Bool) := if (l0.length : Int) = (l1.length : Int) then (laws_eqExprS.l0 k l0 l1 0) else (some false)
theorem laws_eqExprS.mono_l : ∀ k, (∀ y0 y1 y2, LeO (laws_eqExprS.l0 k y0 y1 y2) (laws_eqExprS.l0 (k + 1) y0 y1 y2))
 | 0 => fun _ _ _ r h => by simp [laws_eqExprS.l0] at h
 | k + 1 => by
  have ih0 := laws_eqExprS.mono_l k
  ·intro y0 y1 y2
   unfold laws_eqExprS.l0
   repeat' first
   | (with_reducible exact ih0 _ _ _)
   | (with_reducible exact LeO.refl _)
   | (with_reducible exact LeO.none _)
   | (with_reducible refine LeO.ite ?_ ?_)
   | (with_reducible refine LeO.bind ?_ (fun _ => ?_))
   | exact ih0 _ _ _
   | exact LeO.none _
   | refine LeO.ite ?_ ?_
   | refine LeO.bind ?_ (fun _ => ?_)
theorem laws_eqExprS.mono : ∀ a0 a1 k, LeO (laws_eqExprS.f k a0 a1) (laws_eqExprS.f (k + 1) a0 a1) := by
 intro a0 a1 k
 have ih0 := laws_eqExprS.mono_l k
 unfold laws_eqExprS.f
 repeat' first
   | (with_reducible exact ih0 _ _ _)
   | (with_reducible exact LeO.refl _)
   | (with_reducible exact LeO.none _)
   | (with_reducible refine LeO.ite ?_ ?_)
   | (with_reducible refine LeO.bind ?_ (fun _ => ?_))
   | exact ih0 _ _ _
   | exact LeO.none _
   | refine LeO.ite ?_ ?_
   | refine LeO.bind ?_ (fun _ => ?_)
def laws_eqExprS.T6 : Bool × List (List Nat × List Nat) := (true, [([], []), ([], []), ([0, 1], [0, 1]), ([2], [2]), ([], []), ([], []), ([4, 5], [4, 5]), ([6], [6]), ([3, 7], [3, 7]), ([8], [8])])
def laws_eqExprS.B6 : List Nat := [0, 0, 3, 7, 0, 0, 48, 112, 255, 511]
theorem laws_eqExprS.tab6 : rtab .any (opsOf Try.f33 6) = laws_eqExprS.T6 := by kernel_rfl
theorem laws_eqExprS.bits6 : waitsOk laws_eqExprS.T6.2 laws_eqExprS.B6 = true := by kernel_rfl
set_option maxHeartbeats 8000000 in
set_option maxRecDepth 100000 in
theorem laws_eqExprS.calls (k : Nat) (A0 : Option Addr) (c0 : Nat) (l0 : List (S45)) (A1 : Option Addr) (c1 : Nat) (l1 : List (S45)) (r : Bool) (w : World) (hr0 : Kd.C k45 w A0 l0.length l0) (hc0 : l0.length ≤ c0) (hr1 : Kd.C k45 w A1 l1.length l1) (hc1 : l1.length ≤ c1) (h : laws_eqExprS.f k l0 l1 = some r) :
  Calls Try.prog 33 #[.slice A0 l0.length c0, .slice A1 l1.length c1] w fun e w' => e = .returned (.bool r) ∧ Below w.heap.size w w' := by
 have hu45 := Try.underlying45
 have HR0 := Aside0.mk hr0
 have HC0 := Aside0.mk hc0
 clear hr0 hc0
 have HR1 := Aside0.mk hr1
 have HC1 := Aside0.mk hc1
 clear hr1 hc1
 have HB := Aside0.mk (Below.refl w.heap.size w)
 have H : (if (l0.length : Int) = (l1.length : Int) then (laws_eqExprS.l0 k l0 l1 0) else (some false)) = some r := h
 clear h
 by_cases c3 : (l0.length : Int) = (l1.length : Int)
 ·rw [if_pos c3] at H
  have c3b0 : ((l0.length : Int) == (l1.length : Int)) = true := beq_iff_eq.mpr c3
  have c3b1 : ((l0.length : Int) != (l1.length : Int)) = false := bne_eq_false_iff_eq.mpr c3
  have c3b2 : (l0.length == l1.length) = true := by first | simpa using c3 | (simp at c3 ⊢; omega)
  clear c3
  have H' := Aside0.mk H
  clear H
  go_enter Try.func33, Try.ntmps33
  go_wp2
  go_loopg [5] k (fun kq v5 w' => ∃ (x5_1 : Int), v5 = .int .i64 x5_1 ∧ Aside0 (laws_eqExprS.l0 kq l0 l1 x5_1 = some r) ∧ Aside0 (kq ≤ k) ∧ Aside0 (Below w.heap.size w w'))
  case atStart => exact ⟨(0), (by first | rfl | (simp; done) | (simp [*]; done)), H', ⟨Nat.le_refl _⟩, ⟨bel HB.out⟩⟩
  case round =>
   clear H'
   try clear c1
   try clear p2
   try clear c3
   try clear c3b0
   try clear c3b1
   try clear c3b2
   obtain ⟨x5_1, rfl, HA, HK1, HB⟩ := hrel
   cases gk with
   | zero => exact absurd HA.out (by simp [laws_eqExprS.l0])
   | succ k1 =>
    have H := HA.out
    clear HA
    simp only [laws_eqExprS.l0] at H
    by_cases c4 : x5_1 < (l0.length : Int)
    ·rw [if_pos c4] at H
     have c4b0 : decide (x5_1 < (l0.length : Int)) = true := decide_eq_true c4
     clear c4
     by_cases c5 : 0 ≤ x5_1
     ·rw [if_pos c5] at H
      have c5b0 : decide (0 ≤ x5_1) = true := decide_eq_true c5
      clear c5
      by_cases c6 : x5_1 < (l1.length : Int)
      ·rw [if_pos c6] at H
       have c6b0 : decide (x5_1 < (l1.length : Int)) = true := decide_eq_true c6
       clear c6
       replace H := Option.bind_eq_some_iff.mp H
       obtain ⟨t426, A70, H⟩ := H
       replace H : (if t426 = true then (laws_eqExprS.l0 k1 l0 l1 (wrap64 (x5_1 + 1))) else (some false)) = some r := H
       have A7 := Aside0.mk A70
       clear A70
       by_cases c8 : t426 = true
       ·subst c8
        have H1 : (laws_eqExprS.l0 k1 l0 l1 (wrap64 (x5_1 + 1))) = some r := by rw [if_pos rfl] at H; exact H
        clear H
        have H := H1
        clear H1
        have H' := Aside0.mk H
        clear H
        try go_wp2
        have n0_ := Aside0.mk (below_drew1 HB.out)
        clear HB
        have HB := n0_
        clear n0_
        have p424 : 0 ≤ (x5_1 : Int) := of_decide_eq_true (by first | (with_reducible assumption) | assumption)
        have q424 : x5_1 < (l0.length : Int) := of_decide_eq_true (by first | (with_reducible assumption) | assumption)
        obtain ⟨ad424, e424, hx424_0, hx424_1, hx424_2, hx424_3, hx424_4⟩ := at_T45 HR0.out x5_1 p424 q424
        have hw424_4 := hx424_4
        have hw424_3 := hx424_3
        have hw424_2 := hx424_2
        have hw424_1 := hx424_1
        have hw424_0 := hx424_0
        cases e424
        replace hx424_0 := (HB.out.cell (World.block_lt_of_cell? w _ hx424_0)).trans hx424_0
        replace hx424_1 := (HB.out.cell (World.block_lt_of_cell? w _ hx424_1)).trans hx424_1
        replace hx424_2 := (HB.out.cell (World.block_lt_of_cell? w _ hx424_2)).trans hx424_2
        replace hx424_3 := (HB.out.cell (World.block_lt_of_cell? w _ hx424_3)).trans hx424_3
        replace hx424_4 := (HB.out.cell (World.block_lt_of_cell? w _ hx424_4)).trans hx424_4
        replace p424 := eq_true p424
        replace q424 := eq_true q424
        have p425 : 0 ≤ (x5_1 : Int) := of_decide_eq_true (by first | (with_reducible assumption) | assumption)
        have q425 : x5_1 < (l1.length : Int) := of_decide_eq_true (by first | (with_reducible assumption) | assumption)
        obtain ⟨ad425, e425, hx425_0, hx425_1, hx425_2, hx425_3, hx425_4⟩ := at_T45 HR1.out x5_1 p425 q425
        have hw425_4 := hx425_4
        have hw425_3 := hx425_3
        have hw425_2 := hx425_2
        have hw425_1 := hx425_1
        have hw425_0 := hx425_0
        cases e425
        replace hx425_0 := (HB.out.cell (World.block_lt_of_cell? w _ hx425_0)).trans hx425_0
        replace hx425_1 := (HB.out.cell (World.block_lt_of_cell? w _ hx425_1)).trans hx425_1
        replace hx425_2 := (HB.out.cell (World.block_lt_of_cell? w _ hx425_2)).trans hx425_2
        replace hx425_3 := (HB.out.cell (World.block_lt_of_cell? w _ hx425_3)).trans hx425_3
        replace hx425_4 := (HB.out.cell (World.block_lt_of_cell? w _ hx425_4)).trans hx425_4
        replace p425 := eq_true p425
        replace q425 := eq_true q425
        refine start_ (n := 10) (S := fun w' => w'.cell? (ad424.add ((x5_1).toNat * 5)) = some (.int .i64 ((rd_T45 l0 x5_1).f0)) ∧ w'.cell? ⟨(ad424.add ((x5_1).toNat * 5)).block, (ad424.add ((x5_1).toNat * 5)).off + 1, none⟩ = some (.int .i64 ((rd_T45 l0 x5_1).f1.f0)) ∧ w'.cell? ⟨(ad424.add ((x5_1).toNat * 5)).block, (ad424.add ((x5_1).toNat * 5)).off + 2, none⟩ = some (.int .i64 ((rd_T45 l0 x5_1).f1.f1)) ∧ w'.cell? ⟨(ad424.add ((x5_1).toNat * 5)).block, (ad424.add ((x5_1).toNat * 5)).off + 3, none⟩ = some (.int .i64 ((rd_T45 l0 x5_1).f2.f0)) ∧ w'.cell? ⟨(ad424.add ((x5_1).toNat * 5)).block, (ad424.add ((x5_1).toNat * 5)).off + 4, none⟩ = some (.int .i64 ((rd_T45 l0 x5_1).f2.f1)) ∧ w'.cell? (ad425.add ((x5_1).toNat * 5)) = some (.int .i64 ((rd_T45 l1 x5_1).f0)) ∧ w'.cell? ⟨(ad425.add ((x5_1).toNat * 5)).block, (ad425.add ((x5_1).toNat * 5)).off + 1, none⟩ = some (.int .i64 ((rd_T45 l1 x5_1).f1.f0)) ∧ w'.cell? ⟨(ad425.add ((x5_1).toNat * 5)).block, (ad425.add ((x5_1).toNat * 5)).off + 2, none⟩ = some (.int .i64 ((rd_T45 l1 x5_1).f1.f1)) ∧ w'.cell? ⟨(ad425.add ((x5_1).toNat * 5)).block, (ad425.add ((x5_1).toNat * 5)).off + 3, none⟩ = some (.int .i64 ((rd_T45 l1 x5_1).f2.f0)) ∧ w'.cell? ⟨(ad425.add ((x5_1).toNat * 5)).block, (ad425.add ((x5_1).toNat * 5)).off + 4, none⟩ = some (.int .i64 ((rd_T45 l1 x5_1).f2.f1))) (ds := []) #[false, false, false, false, false, false, false, false, false, false] (by kernel_rfl) rfl rfl ⟨((HB.out.cell (World.block_lt_of_cell? w _ hw424_0)).trans hw424_0), ((HB.out.cell (World.block_lt_of_cell? w _ hw424_1)).trans hw424_1), ((HB.out.cell (World.block_lt_of_cell? w _ hw424_2)).trans hw424_2), ((HB.out.cell (World.block_lt_of_cell? w _ hw424_3)).trans hw424_3), ((HB.out.cell (World.block_lt_of_cell? w _ hw424_4)).trans hw424_4), ((HB.out.cell (World.block_lt_of_cell? w _ hw425_0)).trans hw425_0), ((HB.out.cell (World.block_lt_of_cell? w _ hw425_1)).trans hw425_1), ((HB.out.cell (World.block_lt_of_cell? w _ hw425_2)).trans hw425_2), ((HB.out.cell (World.block_lt_of_cell? w _ hw425_3)).trans hw425_3), ((HB.out.cell (World.block_lt_of_cell? w _ hw425_4)).trans hw425_4)⟩ (fun hHeld => ?_); refine with_tabW laws_eqExprS.tab6 laws_eqExprS.bits6 (fun HT_ HW_ => ?_)
        generalize wr.drew = w9 at HB hx424_0 hx424_1 hx424_2 hx424_3 hx424_4 hx425_0 hx425_1 hx425_2 hx425_3 hx425_4 hHeld ⊢
        refine pure_ (i := 0) (N := some 17) (v := ?_) (a' := ?_) #[true, false, false, false, false, false, false, false, false, false] rfl rfl (any_of HT_.out (by kernel_rfl)) (fun _ _ _ h => h) (Or.inl ⟨by rfl, ?_⟩) ?_ ?_
        rotate_left
        ·intro w'
         go_simp
         with_reducible rfl
        rotate_left
        ·simp only [Act.put, List.setIfInBounds_toArray, List.set_cons_zero, List.set_cons_succ, i64_w, i32_w]
         rfl
        refine pure_ (i := 1) (N := some 18) (v := ?_) (a' := ?_) #[true, true, false, false, false, false, false, false, false, false] rfl rfl (any_of HT_.out (by kernel_rfl)) (fun _ _ _ h => h) (Or.inl ⟨by rfl, ?_⟩) ?_ ?_
        rotate_left
        ·intro w'
         go_simp
         with_reducible rfl
        rotate_left
        ·simp only [Act.put, List.setIfInBounds_toArray, List.set_cons_zero, List.set_cons_succ, i64_w, i32_w]
         rfl
        refine pure_ (i := 2) (N := some 19) (v := ?_) (a' := ?_) #[true, true, true, false, false, false, false, false, false, false] rfl rfl (any_of HT_.out (by kernel_rfl)) (fun _ _ _ h => h) (Or.inl ⟨by rfl, ?_⟩) ?_ ?_
        rotate_left
        ·intro w'
         go_simp
         with_reducible rfl
        rotate_left
        ·simp only [Act.put, List.setIfInBounds_toArray, List.set_cons_zero, List.set_cons_succ, i64_w, i32_w]
         rfl
        refine pure_ (i := 4) (N := some 21) (v := ?_) (a' := ?_) #[true, true, true, false, true, false, false, false, false, false] rfl rfl (any_of HT_.out (by kernel_rfl)) (fun _ _ _ h => h) (Or.inl ⟨by rfl, ?_⟩) ?_ ?_
        rotate_left
        ·intro w'
         go_simp
         with_reducible rfl
        rotate_left
        ·simp only [Act.put, List.setIfInBounds_toArray, List.set_cons_zero, List.set_cons_succ, i64_w, i32_w]
         rfl
        refine pure_ (i := 5) (N := some 22) (v := ?_) (a' := ?_) #[true, true, true, false, true, true, false, false, false, false] rfl rfl (any_of HT_.out (by kernel_rfl)) (fun _ _ _ h => h) (Or.inl ⟨by rfl, ?_⟩) ?_ ?_
        rotate_left
        ·intro w'
         go_simp
         with_reducible rfl
        rotate_left
        ·simp only [Act.put, List.setIfInBounds_toArray, List.set_cons_zero, List.set_cons_succ, i64_w, i32_w]
         rfl
        refine pure_ (i := 6) (N := some 23) (v := ?_) (a' := ?_) #[true, true, true, false, true, true, true, false, false, false] rfl rfl (any_of HT_.out (by kernel_rfl)) (fun _ _ _ h => h) (Or.inl ⟨by rfl, ?_⟩) ?_ ?_
        rotate_left
        ·intro w'
         go_simp
         with_reducible rfl
        rotate_left
        ·simp only [Act.put, List.setIfInBounds_toArray, List.set_cons_zero, List.set_cons_succ, i64_w, i32_w]
         rfl
        refine take_ (i := 3) (N := some 20) (v := ?_) (a' := ?_) #[true, true, true, true, true, true, true, false, false, false] rfl rfl (take_ofW HT_.out HW_.out (by kernel_rfl)) (fun _ _ _ h => h) (Or.inl ⟨by rfl, ?_⟩) hHeld ?_ ?_
        rotate_left
        ·rintro w' ⟨s0, s1, s2, s3, s4, s5, s6, s7, s8, s9⟩
         go_simp
         with_reducible rfl
        rotate_left
        ·simp only [Act.put, List.setIfInBounds_toArray, List.set_cons_zero, List.set_cons_succ, i64_w, i32_w]
         rfl
        refine take_ (i := 7) (N := some 24) (v := ?_) (a' := ?_) #[true, true, true, true, true, true, true, true, false, false] rfl rfl (take_ofW HT_.out HW_.out (by kernel_rfl)) (fun _ _ _ h => h) (Or.inl ⟨by rfl, ?_⟩) hHeld ?_ ?_
        rotate_left
        ·rintro w' ⟨s0, s1, s2, s3, s4, s5, s6, s7, s8, s9⟩
         go_simp
         with_reducible rfl
        rotate_left
        ·simp only [Act.put, List.setIfInBounds_toArray, List.set_cons_zero, List.set_cons_succ, i64_w, i32_w]
         rfl
        refine one_ (i := 8) (N := some 25) #[true, true, true, true, true, true, true, true, true, false] rfl rfl (one_of HT_.out (by kernel_rfl)) (by decide) (fun K hK => ?_)
        refine goes_ Try.func81 (by kernel_rfl) rfl #[.agg #[.int .i64 ((rd_T45 l0 x5_1).f0), .int .i64 ((rd_T45 l0 x5_1).f1.f0), .int .i64 ((rd_T45 l0 x5_1).f1.f1), .int .i64 ((rd_T45 l0 x5_1).f2.f0), .int .i64 ((rd_T45 l0 x5_1).f2.f1)], .agg #[.int .i64 ((rd_T45 l1 x5_1).f0), .int .i64 ((rd_T45 l1 x5_1).f1.f0), .int .i64 ((rd_T45 l1 x5_1).f1.f1), .int .i64 ((rd_T45 l1 x5_1).f2.f0), .int .i64 ((rd_T45 l1 x5_1).f2.f1)]] (by rfl) rfl rfl (by (try simp only [List.map_toArray, List.map_cons, List.map_nil]); first | done | rfl | (simp only [List.length_drop, List.length_take]; rfl)) ?_
        with_reducible refine (laws_eqExpr.calls ((rd_T45 l0 x5_1).f0) ((rd_T45 l0 x5_1).f1.f0) ((rd_T45 l0 x5_1).f1.f1) ((rd_T45 l0 x5_1).f2.f0) ((rd_T45 l0 x5_1).f2.f1) ((rd_T45 l1 x5_1).f0) ((rd_T45 l1 x5_1).f1.f0) ((rd_T45 l1 x5_1).f1.f1) ((rd_T45 l1 x5_1).f2.f0) ((rd_T45 l1 x5_1).f2.f1) true _ A7.out).mono ?_
        rintro e w10 ⟨rfl, hb⟩
        refine ⟨_, rfl, ?_⟩
        have n0_ := Aside0.mk (below_step (bel HB.out) hb)
        clear HB
        have HB := n0_
        clear n0_
        (try clear hb)
        (try clear hb2)
        (try clear hk)
        (try clear hi)
        refine hK.out _ _ ⟨((HB.out.cell (World.block_lt_of_cell? w _ hw424_0)).trans hw424_0), ((HB.out.cell (World.block_lt_of_cell? w _ hw424_1)).trans hw424_1), ((HB.out.cell (World.block_lt_of_cell? w _ hw424_2)).trans hw424_2), ((HB.out.cell (World.block_lt_of_cell? w _ hw424_3)).trans hw424_3), ((HB.out.cell (World.block_lt_of_cell? w _ hw424_4)).trans hw424_4), ((HB.out.cell (World.block_lt_of_cell? w _ hw425_0)).trans hw425_0), ((HB.out.cell (World.block_lt_of_cell? w _ hw425_1)).trans hw425_1), ((HB.out.cell (World.block_lt_of_cell? w _ hw425_2)).trans hw425_2), ((HB.out.cell (World.block_lt_of_cell? w _ hw425_3)).trans hw425_3), ((HB.out.cell (World.block_lt_of_cell? w _ hw425_4)).trans hw425_4)⟩ (fun hHeld => ?_)
        clear hK K
        refine norm_ (a' := ?_) ?_ ?_
        rotate_left
        ·show Act.put _ (some 25) _ = _
         simp only [Act.put, List.setIfInBounds_toArray, List.set_cons_zero, List.set_cons_succ, i64_w, i32_w]
         rfl
        refine pure_ (i := 9) (N := some 26) (v := ?_) (a' := ?_) #[true, true, true, true, true, true, true, true, true, true] rfl rfl (any_of HT_.out (by kernel_rfl)) (fun _ _ _ h => h) (Or.inl ⟨by rfl, ?_⟩) ?_ ?_
        rotate_left
        ·intro w'
         go_simp
         with_reducible rfl
        rotate_left
        ·simp only [Act.put, List.setIfInBounds_toArray, List.set_cons_zero, List.set_cons_succ, i64_w, i32_w]
         rfl
        refine done_ (done_of HT_.out (by kernel_rfl)) ?_
        try go_wp2
        go_roundg k1
        case measure => have := HK1.out; omega
        case rel => exact ⟨(wrap64 (x5_1 + 1)), (by first | rfl | (simp; done) | (simp [*]; done)), H', ⟨by have := HK1.out; omega⟩, ⟨bel HB.out⟩⟩
       ·replace c8 := Bool.eq_false_iff.mpr c8
        subst c8
        have H1 : (some false) = some r := by rw [if_neg (show ¬ (false = true) by decide)] at H; exact H
        clear H
        have H := H1
        clear H1
        obtain rfl := Option.some.inj H
        try go_wp2
        have n0_ := Aside0.mk (below_drew1 HB.out)
        clear HB
        have HB := n0_
        clear n0_
        have p424 : 0 ≤ (x5_1 : Int) := of_decide_eq_true (by first | (with_reducible assumption) | assumption)
        have q424 : x5_1 < (l0.length : Int) := of_decide_eq_true (by first | (with_reducible assumption) | assumption)
        obtain ⟨ad424, e424, hx424_0, hx424_1, hx424_2, hx424_3, hx424_4⟩ := at_T45 HR0.out x5_1 p424 q424
        have hw424_4 := hx424_4
        have hw424_3 := hx424_3
        have hw424_2 := hx424_2
        have hw424_1 := hx424_1
        have hw424_0 := hx424_0
        cases e424
        replace hx424_0 := (HB.out.cell (World.block_lt_of_cell? w _ hx424_0)).trans hx424_0
        replace hx424_1 := (HB.out.cell (World.block_lt_of_cell? w _ hx424_1)).trans hx424_1
        replace hx424_2 := (HB.out.cell (World.block_lt_of_cell? w _ hx424_2)).trans hx424_2
        replace hx424_3 := (HB.out.cell (World.block_lt_of_cell? w _ hx424_3)).trans hx424_3
        replace hx424_4 := (HB.out.cell (World.block_lt_of_cell? w _ hx424_4)).trans hx424_4
        replace p424 := eq_true p424
        replace q424 := eq_true q424
        have p425 : 0 ≤ (x5_1 : Int) := of_decide_eq_true (by first | (with_reducible assumption) | assumption)
        have q425 : x5_1 < (l1.length : Int) := of_decide_eq_true (by first | (with_reducible assumption) | assumption)
        obtain ⟨ad425, e425, hx425_0, hx425_1, hx425_2, hx425_3, hx425_4⟩ := at_T45 HR1.out x5_1 p425 q425
        have hw425_4 := hx425_4
        have hw425_3 := hx425_3
        have hw425_2 := hx425_2
        have hw425_1 := hx425_1
        have hw425_0 := hx425_0
        cases e425
        replace hx425_0 := (HB.out.cell (World.block_lt_of_cell? w _ hx425_0)).trans hx425_0
        replace hx425_1 := (HB.out.cell (World.block_lt_of_cell? w _ hx425_1)).trans hx425_1
        replace hx425_2 := (HB.out.cell (World.block_lt_of_cell? w _ hx425_2)).trans hx425_2
        replace hx425_3 := (HB.out.cell (World.block_lt_of_cell? w _ hx425_3)).trans hx425_3
        replace hx425_4 := (HB.out.cell (World.block_lt_of_cell? w _ hx425_4)).trans hx425_4
        replace p425 := eq_true p425
        replace q425 := eq_true q425
        refine start_ (n := 10) (S := fun w' => w'.cell? (ad424.add ((x5_1).toNat * 5)) = some (.int .i64 ((rd_T45 l0 x5_1).f0)) ∧ w'.cell? ⟨(ad424.add ((x5_1).toNat * 5)).block, (ad424.add ((x5_1).toNat * 5)).off + 1, none⟩ = some (.int .i64 ((rd_T45 l0 x5_1).f1.f0)) ∧ w'.cell? ⟨(ad424.add ((x5_1).toNat * 5)).block, (ad424.add ((x5_1).toNat * 5)).off + 2, none⟩ = some (.int .i64 ((rd_T45 l0 x5_1).f1.f1)) ∧ w'.cell? ⟨(ad424.add ((x5_1).toNat * 5)).block, (ad424.add ((x5_1).toNat * 5)).off + 3, none⟩ = some (.int .i64 ((rd_T45 l0 x5_1).f2.f0)) ∧ w'.cell? ⟨(ad424.add ((x5_1).toNat * 5)).block, (ad424.add ((x5_1).toNat * 5)).off + 4, none⟩ = some (.int .i64 ((rd_T45 l0 x5_1).f2.f1)) ∧ w'.cell? (ad425.add ((x5_1).toNat * 5)) = some (.int .i64 ((rd_T45 l1 x5_1).f0)) ∧ w'.cell? ⟨(ad425.add ((x5_1).toNat * 5)).block, (ad425.add ((x5_1).toNat * 5)).off + 1, none⟩ = some (.int .i64 ((rd_T45 l1 x5_1).f1.f0)) ∧ w'.cell? ⟨(ad425.add ((x5_1).toNat * 5)).block, (ad425.add ((x5_1).toNat * 5)).off + 2, none⟩ = some (.int .i64 ((rd_T45 l1 x5_1).f1.f1)) ∧ w'.cell? ⟨(ad425.add ((x5_1).toNat * 5)).block, (ad425.add ((x5_1).toNat * 5)).off + 3, none⟩ = some (.int .i64 ((rd_T45 l1 x5_1).f2.f0)) ∧ w'.cell? ⟨(ad425.add ((x5_1).toNat * 5)).block, (ad425.add ((x5_1).toNat * 5)).off + 4, none⟩ = some (.int .i64 ((rd_T45 l1 x5_1).f2.f1))) (ds := []) #[false, false, false, false, false, false, false, false, false, false] (by kernel_rfl) rfl rfl ⟨((HB.out.cell (World.block_lt_of_cell? w _ hw424_0)).trans hw424_0), ((HB.out.cell (World.block_lt_of_cell? w _ hw424_1)).trans hw424_1), ((HB.out.cell (World.block_lt_of_cell? w _ hw424_2)).trans hw424_2), ((HB.out.cell (World.block_lt_of_cell? w _ hw424_3)).trans hw424_3), ((HB.out.cell (World.block_lt_of_cell? w _ hw424_4)).trans hw424_4), ((HB.out.cell (World.block_lt_of_cell? w _ hw425_0)).trans hw425_0), ((HB.out.cell (World.block_lt_of_cell? w _ hw425_1)).trans hw425_1), ((HB.out.cell (World.block_lt_of_cell? w _ hw425_2)).trans hw425_2), ((HB.out.cell (World.block_lt_of_cell? w _ hw425_3)).trans hw425_3), ((HB.out.cell (World.block_lt_of_cell? w _ hw425_4)).trans hw425_4)⟩ (fun hHeld => ?_); refine with_tabW laws_eqExprS.tab6 laws_eqExprS.bits6 (fun HT_ HW_ => ?_)
        generalize wr.drew = w11 at HB hx424_0 hx424_1 hx424_2 hx424_3 hx424_4 hx425_0 hx425_1 hx425_2 hx425_3 hx425_4 hHeld ⊢
        refine pure_ (i := 0) (N := some 17) (v := ?_) (a' := ?_) #[true, false, false, false, false, false, false, false, false, false] rfl rfl (any_of HT_.out (by kernel_rfl)) (fun _ _ _ h => h) (Or.inl ⟨by rfl, ?_⟩) ?_ ?_
        rotate_left
        ·intro w'
         go_simp
         with_reducible rfl
        rotate_left
        ·simp only [Act.put, List.setIfInBounds_toArray, List.set_cons_zero, List.set_cons_succ, i64_w, i32_w]
         rfl
        refine pure_ (i := 1) (N := some 18) (v := ?_) (a' := ?_) #[true, true, false, false, false, false, false, false, false, false] rfl rfl (any_of HT_.out (by kernel_rfl)) (fun _ _ _ h => h) (Or.inl ⟨by rfl, ?_⟩) ?_ ?_
        rotate_left
        ·intro w'
         go_simp
         with_reducible rfl
        rotate_left
        ·simp only [Act.put, List.setIfInBounds_toArray, List.set_cons_zero, List.set_cons_succ, i64_w, i32_w]
         rfl
        refine pure_ (i := 2) (N := some 19) (v := ?_) (a' := ?_) #[true, true, true, false, false, false, false, false, false, false] rfl rfl (any_of HT_.out (by kernel_rfl)) (fun _ _ _ h => h) (Or.inl ⟨by rfl, ?_⟩) ?_ ?_
        rotate_left
        ·intro w'
         go_simp
         with_reducible rfl
        rotate_left
        ·simp only [Act.put, List.setIfInBounds_toArray, List.set_cons_zero, List.set_cons_succ, i64_w, i32_w]
         rfl
        refine pure_ (i := 4) (N := some 21) (v := ?_) (a' := ?_) #[true, true, true, false, true, false, false, false, false, false] rfl rfl (any_of HT_.out (by kernel_rfl)) (fun _ _ _ h => h) (Or.inl ⟨by rfl, ?_⟩) ?_ ?_
        rotate_left
        ·intro w'
         go_simp
         with_reducible rfl
        rotate_left
        ·simp only [Act.put, List.setIfInBounds_toArray, List.set_cons_zero, List.set_cons_succ, i64_w, i32_w]
         rfl
        refine pure_ (i := 5) (N := some 22) (v := ?_) (a' := ?_) #[true, true, true, false, true, true, false, false, false, false] rfl rfl (any_of HT_.out (by kernel_rfl)) (fun _ _ _ h => h) (Or.inl ⟨by rfl, ?_⟩) ?_ ?_
        rotate_left
        ·intro w'
         go_simp
         with_reducible rfl
        rotate_left
        ·simp only [Act.put, List.setIfInBounds_toArray, List.set_cons_zero, List.set_cons_succ, i64_w, i32_w]
         rfl
        refine pure_ (i := 6) (N := some 23) (v := ?_) (a' := ?_) #[true, true, true, false, true, true, true, false, false, false] rfl rfl (any_of HT_.out (by kernel_rfl)) (fun _ _ _ h => h) (Or.inl ⟨by rfl, ?_⟩) ?_ ?_
        rotate_left
        ·intro w'
         go_simp
         with_reducible rfl
        rotate_left
        ·simp only [Act.put, List.setIfInBounds_toArray, List.set_cons_zero, List.set_cons_succ, i64_w, i32_w]
         rfl
        refine take_ (i := 3) (N := some 20) (v := ?_) (a' := ?_) #[true, true, true, true, true, true, true, false, false, false] rfl rfl (take_ofW HT_.out HW_.out (by kernel_rfl)) (fun _ _ _ h => h) (Or.inl ⟨by rfl, ?_⟩) hHeld ?_ ?_
        rotate_left
        ·rintro w' ⟨s0, s1, s2, s3, s4, s5, s6, s7, s8, s9⟩
         go_simp
         with_reducible rfl
        rotate_left
        ·simp only [Act.put, List.setIfInBounds_toArray, List.set_cons_zero, List.set_cons_succ, i64_w, i32_w]
         rfl
        refine take_ (i := 7) (N := some 24) (v := ?_) (a' := ?_) #[true, true, true, true, true, true, true, true, false, false] rfl rfl (take_ofW HT_.out HW_.out (by kernel_rfl)) (fun _ _ _ h => h) (Or.inl ⟨by rfl, ?_⟩) hHeld ?_ ?_
        rotate_left
        ·rintro w' ⟨s0, s1, s2, s3, s4, s5, s6, s7, s8, s9⟩
         go_simp
         with_reducible rfl
        rotate_left
        ·simp only [Act.put, List.setIfInBounds_toArray, List.set_cons_zero, List.set_cons_succ, i64_w, i32_w]
         rfl
        refine one_ (i := 8) (N := some 25) #[true, true, true, true, true, true, true, true, true, false] rfl rfl (one_of HT_.out (by kernel_rfl)) (by decide) (fun K hK => ?_)
        refine goes_ Try.func81 (by kernel_rfl) rfl #[.agg #[.int .i64 ((rd_T45 l0 x5_1).f0), .int .i64 ((rd_T45 l0 x5_1).f1.f0), .int .i64 ((rd_T45 l0 x5_1).f1.f1), .int .i64 ((rd_T45 l0 x5_1).f2.f0), .int .i64 ((rd_T45 l0 x5_1).f2.f1)], .agg #[.int .i64 ((rd_T45 l1 x5_1).f0), .int .i64 ((rd_T45 l1 x5_1).f1.f0), .int .i64 ((rd_T45 l1 x5_1).f1.f1), .int .i64 ((rd_T45 l1 x5_1).f2.f0), .int .i64 ((rd_T45 l1 x5_1).f2.f1)]] (by rfl) rfl rfl (by (try simp only [List.map_toArray, List.map_cons, List.map_nil]); first | done | rfl | (simp only [List.length_drop, List.length_take]; rfl)) ?_
        with_reducible refine (laws_eqExpr.calls ((rd_T45 l0 x5_1).f0) ((rd_T45 l0 x5_1).f1.f0) ((rd_T45 l0 x5_1).f1.f1) ((rd_T45 l0 x5_1).f2.f0) ((rd_T45 l0 x5_1).f2.f1) ((rd_T45 l1 x5_1).f0) ((rd_T45 l1 x5_1).f1.f0) ((rd_T45 l1 x5_1).f1.f1) ((rd_T45 l1 x5_1).f2.f0) ((rd_T45 l1 x5_1).f2.f1) false _ A7.out).mono ?_
        rintro e w12 ⟨rfl, hb⟩
        refine ⟨_, rfl, ?_⟩
        have n0_ := Aside0.mk (below_step (bel HB.out) hb)
        clear HB
        have HB := n0_
        clear n0_
        (try clear hb)
        (try clear hb2)
        (try clear hk)
        (try clear hi)
        refine hK.out _ _ ⟨((HB.out.cell (World.block_lt_of_cell? w _ hw424_0)).trans hw424_0), ((HB.out.cell (World.block_lt_of_cell? w _ hw424_1)).trans hw424_1), ((HB.out.cell (World.block_lt_of_cell? w _ hw424_2)).trans hw424_2), ((HB.out.cell (World.block_lt_of_cell? w _ hw424_3)).trans hw424_3), ((HB.out.cell (World.block_lt_of_cell? w _ hw424_4)).trans hw424_4), ((HB.out.cell (World.block_lt_of_cell? w _ hw425_0)).trans hw425_0), ((HB.out.cell (World.block_lt_of_cell? w _ hw425_1)).trans hw425_1), ((HB.out.cell (World.block_lt_of_cell? w _ hw425_2)).trans hw425_2), ((HB.out.cell (World.block_lt_of_cell? w _ hw425_3)).trans hw425_3), ((HB.out.cell (World.block_lt_of_cell? w _ hw425_4)).trans hw425_4)⟩ (fun hHeld => ?_)
        clear hK K
        refine norm_ (a' := ?_) ?_ ?_
        rotate_left
        ·show Act.put _ (some 25) _ = _
         simp only [Act.put, List.setIfInBounds_toArray, List.set_cons_zero, List.set_cons_succ, i64_w, i32_w]
         rfl
        refine pure_ (i := 9) (N := some 26) (v := ?_) (a' := ?_) #[true, true, true, true, true, true, true, true, true, true] rfl rfl (any_of HT_.out (by kernel_rfl)) (fun _ _ _ h => h) (Or.inl ⟨by rfl, ?_⟩) ?_ ?_
        rotate_left
        ·intro w'
         go_simp
         with_reducible rfl
        rotate_left
        ·simp only [Act.put, List.setIfInBounds_toArray, List.set_cons_zero, List.set_cons_succ, i64_w, i32_w]
         rfl
        refine done_ (done_of HT_.out (by kernel_rfl)) ?_
        try go_wp2
        go_ret
        exact ⟨by first | rfl | (simp [errW_none, errW_some] <;> rfl) | (simp [*, errW_none, errW_some] <;> rfl), bel HB.out⟩
      ·rw [if_neg c6] at H
       exact absurd H (by simp)
     ·rw [if_neg c5] at H
      exact absurd H (by simp)
    ·rw [if_neg c4] at H
     have c4b0 : decide (x5_1 < (l0.length : Int)) = false := decide_eq_false c4
     clear c4
     obtain rfl := Option.some.inj H
     go_wp2
     go_ret
     exact ⟨by first | rfl | (simp [errW_none, errW_some] <;> rfl) | (simp [*, errW_none, errW_some] <;> rfl), bel HB.out⟩
 ·rw [if_neg c3] at H
  have c3b0 : ((l0.length : Int) == (l1.length : Int)) = false := beq_eq_false_iff_ne.mpr c3
  have c3b1 : ((l0.length : Int) != (l1.length : Int)) = true := bne_iff_ne.mpr c3
  have c3b2 : (l0.length == l1.length) = false := by first | simpa using c3 | (simp at c3 ⊢; omega)
  obtain rfl := Option.some.inj H
  go_enter Try.func33, Try.ntmps33
  go_wp2
  go_ret
  exact ⟨by first | rfl | (simp [errW_none, errW_some] <;> rfl) | (simp [*, errW_none, errW_some] <;> rfl), bel HB.out⟩

/-! ### laws_markExprS: function 34 -/
theorem EX_self (l : List S45) (i : Int) (h0 : 0 ≤ i) (h1 : i < l.length) : l.set i.toNat (rd_T45 l i) = l := by
  rw [show rd_T45 l i = l[i.toNat]'(by omega) from getD_getElem l _ i h0 (by omega)]
  exact List.set_getElem_self _
theorem EX_at {w : World} {base : Nat} {ok : Nat → Prop} {x0 : List S45} {y : S45} {i : Int} {g n cap : Nat} (h : Kd.R k45 45 w base ok (.slice (some ⟨g, 0, none⟩) n cap) (x0.set i.toNat y)) (h0 : 0 ≤ i) (h1 : i < x0.length) :
    (w.cell? ⟨g, i.toNat * 5, none⟩ = some (.int .i64 (y).f0) ∧ w.cell? ⟨g, i.toNat * 5 + 1, none⟩ = some (.int .i64 (y).f1.f0) ∧ w.cell? ⟨g, i.toNat * 5 + 2, none⟩ = some (.int .i64 (y).f1.f1) ∧ w.cell? ⟨g, i.toNat * 5 + 3, none⟩ = some (.int .i64 (y).f2.f0) ∧ w.cell? ⟨g, i.toNat * 5 + 4, none⟩ = some (.int .i64 (y).f2.f1)) ∧ ∀ j, w.frozen? ⟨g, i.toNat * 5 + j, none⟩ = false := by
  have hy : (x0.set i.toNat y).getD i.toNat z45 = y := by
    rw [List.getD_eq_getElem?_getD, List.getElem?_set_self (by omega)]
    rfl
  obtain ⟨hn, _, _⟩ := Kd.R_reads' h
  rw [List.length_set] at hn
  obtain ⟨c, hcl, hM, hcc, hfr⟩ := Kd.R_elem h z45 i h0 (by omega)
  rw [hy] at hM
  obtain rfl := k45_openM hM
  exact ⟨⟨hcc 0 _ rfl, hcc 1 _ rfl, hcc 2 _ rfl, hcc 3 _ rfl, hcc 4 _ rfl⟩, hfr⟩
theorem EX_put0 {w : World} {base : Nat} {ok : Nat → Prop} {x0 : List S45} {y : S45} {i : Int} {g n cap : Nat} (h : Kd.R k45 45 w base ok (.slice (some ⟨g, 0, none⟩) n cap) (x0.set i.toNat y)) (h0 : 0 ≤ i) (h1 : i < x0.length) (u : Int) :
    Kd.R k45 45 (w.setCell ⟨g, i.toNat * 5, none⟩ (.int .i64 u)) base ok (.slice (some ⟨g, 0, none⟩) n cap) (x0.set i.toNat (⟨u, ⟨(y).f1.f0, (y).f1.f1⟩, ⟨(y).f2.f0, (y).f2.f1⟩⟩ : S45)) ∧ w.grownBy (w.setCell ⟨g, i.toNat * 5, none⟩ (.int .i64 u)) (some g) := by
  have hy : (x0.set i.toNat y).getD i.toNat z45 = y := by
    rw [List.getD_eq_getElem?_getD, List.getElem?_set_self (by omega)]
    rfl
  obtain ⟨hn, _, _⟩ := Kd.R_reads' h
  rw [List.length_set] at hn
  obtain ⟨c, hcl, hM, hcc, hfr⟩ := Kd.R_elem h z45 i h0 (by omega)
  rw [hy] at hM
  obtain rfl := k45_openM hM
  have q := Kd.R_seg h i h0 (by omega) hcl hcc (seg := [.int .i64 u]) (j := 0) (show 0 + 1 ≤ 5 by omega) (okp := fun _ => False) (k45_mkM _ _ _ (⟨u, ⟨(y).f1.f0, (y).f1.f1⟩, ⟨(y).f2.f0, (y).f2.f1⟩⟩ : S45)) (fun k hk => hk.elim)
  rw [List.set_set] at q
  exact q
theorem EX_put1 {w : World} {base : Nat} {ok : Nat → Prop} {x0 : List S45} {y : S45} {i : Int} {g n cap : Nat} (h : Kd.R k45 45 w base ok (.slice (some ⟨g, 0, none⟩) n cap) (x0.set i.toNat y)) (h0 : 0 ≤ i) (h1 : i < x0.length) (u : Int) :
    Kd.R k45 45 (w.setCell ⟨g, i.toNat * 5 + 1, none⟩ (.int .i64 u)) base ok (.slice (some ⟨g, 0, none⟩) n cap) (x0.set i.toNat (⟨(y).f0, ⟨u, (y).f1.f1⟩, ⟨(y).f2.f0, (y).f2.f1⟩⟩ : S45)) ∧ w.grownBy (w.setCell ⟨g, i.toNat * 5 + 1, none⟩ (.int .i64 u)) (some g) := by
  have hy : (x0.set i.toNat y).getD i.toNat z45 = y := by
    rw [List.getD_eq_getElem?_getD, List.getElem?_set_self (by omega)]
    rfl
  obtain ⟨hn, _, _⟩ := Kd.R_reads' h
  rw [List.length_set] at hn
  obtain ⟨c, hcl, hM, hcc, hfr⟩ := Kd.R_elem h z45 i h0 (by omega)
  rw [hy] at hM
  obtain rfl := k45_openM hM
  have q := Kd.R_seg h i h0 (by omega) hcl hcc (seg := [.int .i64 u]) (j := 1) (show 1 + 1 ≤ 5 by omega) (okp := fun _ => False) (k45_mkM _ _ _ (⟨(y).f0, ⟨u, (y).f1.f1⟩, ⟨(y).f2.f0, (y).f2.f1⟩⟩ : S45)) (fun k hk => hk.elim)
  rw [List.set_set] at q
  exact q
theorem EX_put2 {w : World} {base : Nat} {ok : Nat → Prop} {x0 : List S45} {y : S45} {i : Int} {g n cap : Nat} (h : Kd.R k45 45 w base ok (.slice (some ⟨g, 0, none⟩) n cap) (x0.set i.toNat y)) (h0 : 0 ≤ i) (h1 : i < x0.length) (u : Int) :
    Kd.R k45 45 (w.setCell ⟨g, i.toNat * 5 + 2, none⟩ (.int .i64 u)) base ok (.slice (some ⟨g, 0, none⟩) n cap) (x0.set i.toNat (⟨(y).f0, ⟨(y).f1.f0, u⟩, ⟨(y).f2.f0, (y).f2.f1⟩⟩ : S45)) ∧ w.grownBy (w.setCell ⟨g, i.toNat * 5 + 2, none⟩ (.int .i64 u)) (some g) := by
  have hy : (x0.set i.toNat y).getD i.toNat z45 = y := by
    rw [List.getD_eq_getElem?_getD, List.getElem?_set_self (by omega)]
    rfl
  obtain ⟨hn, _, _⟩ := Kd.R_reads' h
  rw [List.length_set] at hn
  obtain ⟨c, hcl, hM, hcc, hfr⟩ := Kd.R_elem h z45 i h0 (by omega)
  rw [hy] at hM
  obtain rfl := k45_openM hM
  have q := Kd.R_seg h i h0 (by omega) hcl hcc (seg := [.int .i64 u]) (j := 2) (show 2 + 1 ≤ 5 by omega) (okp := fun _ => False) (k45_mkM _ _ _ (⟨(y).f0, ⟨(y).f1.f0, u⟩, ⟨(y).f2.f0, (y).f2.f1⟩⟩ : S45)) (fun k hk => hk.elim)
  rw [List.set_set] at q
  exact q
theorem EX_put3 {w : World} {base : Nat} {ok : Nat → Prop} {x0 : List S45} {y : S45} {i : Int} {g n cap : Nat} (h : Kd.R k45 45 w base ok (.slice (some ⟨g, 0, none⟩) n cap) (x0.set i.toNat y)) (h0 : 0 ≤ i) (h1 : i < x0.length) (u : Int) :
    Kd.R k45 45 (w.setCell ⟨g, i.toNat * 5 + 3, none⟩ (.int .i64 u)) base ok (.slice (some ⟨g, 0, none⟩) n cap) (x0.set i.toNat (⟨(y).f0, ⟨(y).f1.f0, (y).f1.f1⟩, ⟨u, (y).f2.f1⟩⟩ : S45)) ∧ w.grownBy (w.setCell ⟨g, i.toNat * 5 + 3, none⟩ (.int .i64 u)) (some g) := by
  have hy : (x0.set i.toNat y).getD i.toNat z45 = y := by
    rw [List.getD_eq_getElem?_getD, List.getElem?_set_self (by omega)]
    rfl
  obtain ⟨hn, _, _⟩ := Kd.R_reads' h
  rw [List.length_set] at hn
  obtain ⟨c, hcl, hM, hcc, hfr⟩ := Kd.R_elem h z45 i h0 (by omega)
  rw [hy] at hM
  obtain rfl := k45_openM hM
  have q := Kd.R_seg h i h0 (by omega) hcl hcc (seg := [.int .i64 u]) (j := 3) (show 3 + 1 ≤ 5 by omega) (okp := fun _ => False) (k45_mkM _ _ _ (⟨(y).f0, ⟨(y).f1.f0, (y).f1.f1⟩, ⟨u, (y).f2.f1⟩⟩ : S45)) (fun k hk => hk.elim)
  rw [List.set_set] at q
  exact q
theorem EX_put4 {w : World} {base : Nat} {ok : Nat → Prop} {x0 : List S45} {y : S45} {i : Int} {g n cap : Nat} (h : Kd.R k45 45 w base ok (.slice (some ⟨g, 0, none⟩) n cap) (x0.set i.toNat y)) (h0 : 0 ≤ i) (h1 : i < x0.length) (u : Int) :
    Kd.R k45 45 (w.setCell ⟨g, i.toNat * 5 + 4, none⟩ (.int .i64 u)) base ok (.slice (some ⟨g, 0, none⟩) n cap) (x0.set i.toNat (⟨(y).f0, ⟨(y).f1.f0, (y).f1.f1⟩, ⟨(y).f2.f0, u⟩⟩ : S45)) ∧ w.grownBy (w.setCell ⟨g, i.toNat * 5 + 4, none⟩ (.int .i64 u)) (some g) := by
  have hy : (x0.set i.toNat y).getD i.toNat z45 = y := by
    rw [List.getD_eq_getElem?_getD, List.getElem?_set_self (by omega)]
    rfl
  obtain ⟨hn, _, _⟩ := Kd.R_reads' h
  rw [List.length_set] at hn
  obtain ⟨c, hcl, hM, hcc, hfr⟩ := Kd.R_elem h z45 i h0 (by omega)
  rw [hy] at hM
  obtain rfl := k45_openM hM
  have q := Kd.R_seg h i h0 (by omega) hcl hcc (seg := [.int .i64 u]) (j := 4) (show 4 + 1 ≤ 5 by omega) (okp := fun _ => False) (k45_mkM _ _ _ (⟨(y).f0, ⟨(y).f1.f0, (y).f1.f1⟩, ⟨(y).f2.f0, u⟩⟩ : S45)) (fun k hk => hk.elim)
  rw [List.set_set] at q
  exact q
def laws_markExprS.l0 : Nat → List S45 → Int → Int → Option (Int × List S45)
  | 0, _, _, _ => none
  | k + 1, x0, x1, x5 => if x5 < (x0.length : Int) then (if 0 ≤ x5 then (laws_markExprS.l0 k (x0.set x5.toNat (⟨x1, ⟨wrap64 (x1 + 1), wrap64 (wrap64 (x1 + 1) + 1)⟩, ⟨wrap64 (wrap64 (wrap64 (x1 + 1) + 1) + 1), wrap64 (wrap64 (wrap64 (wrap64 (x1 + 1) + 1) + 1) + 1)⟩⟩ : S45)) (wrap64 (wrap64 (wrap64 (wrap64 (wrap64 (x1 + 1) + 1) + 1) + 1) + 1)) (wrap64 (x5 + 1))) else none) else some (x1, x0)
def laws_markExprS.f (k : Nat) (l0 : List S45) (a1 : Int) : Option (Int × List S45) := laws_markExprS.l0 k l0 a1 0
set_option maxHeartbeats 8000000 in
set_option maxRecDepth 100000 in
theorem laws_markExprS.calls (k : Nat) (P0_ : Nat → Prop) (u9000_ : Value) (l0 : List S45) (a1 : Int) (r1 : Int) (r2 : List S45) (w0 w : World) (hB : Below w0.heap.size w0 w) (ho0 : Kd.R k45 45 w w0.heap.size P0_ u9000_ l0) (h : laws_markExprS.f k l0 a1 = some (r1, r2)) :
  Calls Try.prog 34 #[u9000_, .int .i64 a1] w fun e w' => e = .returned (.int .i64 r1) ∧ Kd.R k45 45 w' w0.heap.size (fun k_ => (P0_ k_ ∨ w.heap.size ≤ k_)) u9000_ r2 ∧ Below w0.heap.size w0 w' ∧ Kept w w' (fun k_ => P0_ k_) := by
  have hu1 := Try.underlying45
  have hu2 := Try.underlying43
  have HS := Aside0.mk ho0
  have HB := Aside0.mk hB
  have HK := Aside0.mk (Kept.refl w P0_)
  have HF := Aside0.mk h
  clear ho0 hB h
  obtain ⟨A0, c0, rfl⟩ := Kd.R_slice HS.out
  obtain ⟨n, hn⟩ : ∃ n, n = l0.length := ⟨_, rfl⟩
  rw [← hn] at HS ⊢
  have HN := Aside0.mk hn
  clear hn
  go_enter Try.func34, Try.ntmps34
  go_wp2
  go_loopg [1, 5] k (fun kq v1 v5 w' => ∃ (x0 : List S45) (x1 x5 : Int), v1 = .int .i64 x1 ∧ v5 = .int .i64 x5 ∧ Aside0 (laws_markExprS.l0 kq x0 x1 x5 = some (r1, r2)) ∧ Aside0 (kq ≤ k) ∧ Aside0 (n = x0.length) ∧ Aside0 (Kd.R k45 45 w' w0.heap.size P0_ (.slice A0 n c0) x0) ∧ Aside0 (Kept w w' P0_) ∧ Aside0 (Below w0.heap.size w0 w'))
  case atStart => exact ⟨l0, a1, 0, rfl, rfl, HF, ⟨Nat.le_refl _⟩, HN, HS, HK, HB⟩
  case round =>
    clear HS HK HB HF HN
    obtain ⟨x0, x1, x5, rfl, rfl, HA, HQ, HN, HS, HK, HB⟩ := hrel
    cases gk with
    | zero => exact absurd HA.out (by simp [laws_markExprS.l0])
    | succ k1 =>
      have H := HA.out
      clear HA
      simp only [laws_markExprS.l0] at H
      rw [← HN.out] at H
      by_cases c3 : x5 < (n : Int)
      · rw [if_pos c3] at H
        have c3b0 : decide (x5 < (n : Int)) = true := decide_eq_true c3
        by_cases c4 : 0 ≤ x5
        · rw [if_pos c4] at H
          have c4b0 : decide (0 ≤ x5) = true := decide_eq_true c4
          have HA := Aside0.mk H
          clear H
          obtain ⟨g, cap, e_, hg_, _⟩ := Kd.R_form HS.out (by have := HN.out; omega)
          have e1_ : A0 = some ⟨g, 0, none⟩ := by injection e_
          subst e1_
          have GB := Aside0.mk hg_
          have GO : Aside0 (P0_ g) := ⟨HS.out.1 g rfl⟩
          clear e_ hg_
          have P0 := Aside0.mk c4
          have P1 : Aside0 (x5 < (x0.length : Int)) := ⟨by have := HN.out; omega⟩
          have q0 : (0 ≤ x5) = True := eq_true c4
          have q1 : (x5 < (n : Int)) = True := eq_true c3
          clear c3 c4
          have n0_ := Aside0.mk (show Kd.R k45 45 wr w0.heap.size P0_ (.slice (some ⟨g, 0, none⟩) n c0) (x0.set x5.toNat (rd_T45 x0 x5)) from (by rw [EX_self x0 x5 P0.out P1.out]; exact HS.out))
          clear HS
          have HS := n0_
          clear n0_
          obtain ⟨⟨hx0, hx1, hx2, hx3, hx4⟩, hf⟩ := EX_at HS.out P0.out P1.out
          have hf0 := hf 0
          have hf1 := hf 1
          have hf2 := hf 2
          have hf3 := hf 3
          have hf4 := hf 4
          try simp only [Nat.add_zero] at hf0
          clear hf
          go_wp2_with (first | ((with_reducible refine gate_store (t := 3) (p := 16) rfl ?_); refine store_event (t := 3) (p := 16) (v := ?vo_w1) (w1 := (wr.setCell ⟨g, x5.toNat * 5, none⟩ (.int .i64 (x1)))) ?hg ?ho ?hn ?hr ?_; (case ho => rfl); (case hg => rfl); (case hn => rfl); (case hr => first | (go_simp; done) | (go_simp; rfl)); intro w1 hw; have hp_ := EX_put0 HS.out P0.out P1.out (x1); have hg : wr.grownBy w1 (some g) := (by rw [hw]; exact hp_.2); have n0_ := Aside0.mk (show Kd.R k45 45 w1 w0.heap.size P0_ (.slice (some ⟨g, 0, none⟩) n c0) (x0.set x5.toNat (⟨x1, ⟨(rd_T45 x0 x5).f1.f0, (rd_T45 x0 x5).f1.f1⟩, ⟨(rd_T45 x0 x5).f2.f0, (rd_T45 x0 x5).f2.f1⟩⟩ : S45)) from (by rw [hw]; exact hp_.1)); have n1_ := Aside0.mk ((by rw [hw]; exact below_set (HB.out) GB.out : Below w0.heap.size w0 w1)); have n2_ := Aside0.mk (Kept.of_grown (S := P0_) hg HK.out (fun k_ e_ => .inl (by cases e_; exact GO.out))); clear hp_ HS HB HK hx0 hx1 hx2 hx3 hx4 hf0 hf1 hf2 hf3 hf4; have HS := n0_; have HB := n1_; have HK := n2_; clear n0_ n1_ n2_ hg hw; obtain ⟨⟨hx0, hx1, hx2, hx3, hx4⟩, hf⟩ := EX_at HS.out P0.out P1.out; have hf0 := hf 0; have hf1 := hf 1; have hf2 := hf 2; have hf3 := hf 3; have hf4 := hf 4; try simp only [Nat.add_zero] at hf0; clear hf) | ((with_reducible refine gate_store (t := 3) (p := 24) rfl ?_); refine store_event (t := 3) (p := 24) (v := ?vo_w2) (w1 := (w1.setCell ⟨g, x5.toNat * 5 + 1, none⟩ (.int .i64 (wrap64 (x1 + 1))))) ?hg ?ho ?hn ?hr ?_; (case ho => rfl); (case hg => rfl); (case hn => rfl); (case hr => first | (go_simp; done) | (go_simp; rfl)); intro w2 hw; have hp_ := EX_put1 HS.out P0.out P1.out (wrap64 (x1 + 1)); have hg : w1.grownBy w2 (some g) := (by rw [hw]; exact hp_.2); have n0_ := Aside0.mk (show Kd.R k45 45 w2 w0.heap.size P0_ (.slice (some ⟨g, 0, none⟩) n c0) (x0.set x5.toNat (⟨x1, ⟨wrap64 (x1 + 1), (rd_T45 x0 x5).f1.f1⟩, ⟨(rd_T45 x0 x5).f2.f0, (rd_T45 x0 x5).f2.f1⟩⟩ : S45)) from (by rw [hw]; exact hp_.1)); have n1_ := Aside0.mk ((by rw [hw]; exact below_set (HB.out) GB.out : Below w0.heap.size w0 w2)); have n2_ := Aside0.mk (Kept.of_grown (S := P0_) hg HK.out (fun k_ e_ => .inl (by cases e_; exact GO.out))); clear hp_ HS HB HK hx0 hx1 hx2 hx3 hx4 hf0 hf1 hf2 hf3 hf4; have HS := n0_; have HB := n1_; have HK := n2_; clear n0_ n1_ n2_ hg hw; obtain ⟨⟨hx0, hx1, hx2, hx3, hx4⟩, hf⟩ := EX_at HS.out P0.out P1.out; have hf0 := hf 0; have hf1 := hf 1; have hf2 := hf 2; have hf3 := hf 3; have hf4 := hf 4; try simp only [Nat.add_zero] at hf0; clear hf) | ((with_reducible refine gate_store (t := 3) (p := 32) rfl ?_); refine store_event (t := 3) (p := 32) (v := ?vo_w3) (w1 := (w2.setCell ⟨g, x5.toNat * 5 + 2, none⟩ (.int .i64 (wrap64 (wrap64 (x1 + 1) + 1))))) ?hg ?ho ?hn ?hr ?_; (case ho => rfl); (case hg => rfl); (case hn => rfl); (case hr => first | (go_simp; done) | (go_simp; rfl)); intro w3 hw; have hp_ := EX_put2 HS.out P0.out P1.out (wrap64 (wrap64 (x1 + 1) + 1)); have hg : w2.grownBy w3 (some g) := (by rw [hw]; exact hp_.2); have n0_ := Aside0.mk (show Kd.R k45 45 w3 w0.heap.size P0_ (.slice (some ⟨g, 0, none⟩) n c0) (x0.set x5.toNat (⟨x1, ⟨wrap64 (x1 + 1), wrap64 (wrap64 (x1 + 1) + 1)⟩, ⟨(rd_T45 x0 x5).f2.f0, (rd_T45 x0 x5).f2.f1⟩⟩ : S45)) from (by rw [hw]; exact hp_.1)); have n1_ := Aside0.mk ((by rw [hw]; exact below_set (HB.out) GB.out : Below w0.heap.size w0 w3)); have n2_ := Aside0.mk (Kept.of_grown (S := P0_) hg HK.out (fun k_ e_ => .inl (by cases e_; exact GO.out))); clear hp_ HS HB HK hx0 hx1 hx2 hx3 hx4 hf0 hf1 hf2 hf3 hf4; have HS := n0_; have HB := n1_; have HK := n2_; clear n0_ n1_ n2_ hg hw; obtain ⟨⟨hx0, hx1, hx2, hx3, hx4⟩, hf⟩ := EX_at HS.out P0.out P1.out; have hf0 := hf 0; have hf1 := hf 1; have hf2 := hf 2; have hf3 := hf 3; have hf4 := hf 4; try simp only [Nat.add_zero] at hf0; clear hf) | ((with_reducible refine gate_store (t := 3) (p := 40) rfl ?_); refine store_event (t := 3) (p := 40) (v := ?vo_w4) (w1 := (w3.setCell ⟨g, x5.toNat * 5 + 3, none⟩ (.int .i64 (wrap64 (wrap64 (wrap64 (x1 + 1) + 1) + 1))))) ?hg ?ho ?hn ?hr ?_; (case ho => rfl); (case hg => rfl); (case hn => rfl); (case hr => first | (go_simp; done) | (go_simp; rfl)); intro w4 hw; have hp_ := EX_put3 HS.out P0.out P1.out (wrap64 (wrap64 (wrap64 (x1 + 1) + 1) + 1)); have hg : w3.grownBy w4 (some g) := (by rw [hw]; exact hp_.2); have n0_ := Aside0.mk (show Kd.R k45 45 w4 w0.heap.size P0_ (.slice (some ⟨g, 0, none⟩) n c0) (x0.set x5.toNat (⟨x1, ⟨wrap64 (x1 + 1), wrap64 (wrap64 (x1 + 1) + 1)⟩, ⟨wrap64 (wrap64 (wrap64 (x1 + 1) + 1) + 1), (rd_T45 x0 x5).f2.f1⟩⟩ : S45)) from (by rw [hw]; exact hp_.1)); have n1_ := Aside0.mk ((by rw [hw]; exact below_set (HB.out) GB.out : Below w0.heap.size w0 w4)); have n2_ := Aside0.mk (Kept.of_grown (S := P0_) hg HK.out (fun k_ e_ => .inl (by cases e_; exact GO.out))); clear hp_ HS HB HK hx0 hx1 hx2 hx3 hx4 hf0 hf1 hf2 hf3 hf4; have HS := n0_; have HB := n1_; have HK := n2_; clear n0_ n1_ n2_ hg hw; obtain ⟨⟨hx0, hx1, hx2, hx3, hx4⟩, hf⟩ := EX_at HS.out P0.out P1.out; have hf0 := hf 0; have hf1 := hf 1; have hf2 := hf 2; have hf3 := hf 3; have hf4 := hf 4; try simp only [Nat.add_zero] at hf0; clear hf) | ((with_reducible refine gate_store (t := 3) (p := 48) rfl ?_); refine store_event (t := 3) (p := 48) (v := ?vo_w5) (w1 := (w4.setCell ⟨g, x5.toNat * 5 + 4, none⟩ (.int .i64 (wrap64 (wrap64 (wrap64 (wrap64 (x1 + 1) + 1) + 1) + 1))))) ?hg ?ho ?hn ?hr ?_; (case ho => rfl); (case hg => rfl); (case hn => rfl); (case hr => first | (go_simp; done) | (go_simp; rfl)); intro w5 hw; have hp_ := EX_put4 HS.out P0.out P1.out (wrap64 (wrap64 (wrap64 (wrap64 (x1 + 1) + 1) + 1) + 1)); have hg : w4.grownBy w5 (some g) := (by rw [hw]; exact hp_.2); have n0_ := Aside0.mk (show Kd.R k45 45 w5 w0.heap.size P0_ (.slice (some ⟨g, 0, none⟩) n c0) (x0.set x5.toNat (⟨x1, ⟨wrap64 (x1 + 1), wrap64 (wrap64 (x1 + 1) + 1)⟩, ⟨wrap64 (wrap64 (wrap64 (x1 + 1) + 1) + 1), wrap64 (wrap64 (wrap64 (wrap64 (x1 + 1) + 1) + 1) + 1)⟩⟩ : S45)) from (by rw [hw]; exact hp_.1)); have n1_ := Aside0.mk ((by rw [hw]; exact below_set (HB.out) GB.out : Below w0.heap.size w0 w5)); have n2_ := Aside0.mk (Kept.of_grown (S := P0_) hg HK.out (fun k_ e_ => .inl (by cases e_; exact GO.out))); clear hp_ HS HB HK hx0 hx1 hx2 hx3 hx4 hf0 hf1 hf2 hf3 hf4; have HS := n0_; have HB := n1_; have HK := n2_; clear n0_ n1_ n2_ hg hw))
          repeat (go_quiet (first | ((with_reducible refine gate_store (t := 3) (p := 16) rfl ?_); refine store_event (t := 3) (p := 16) (v := ?vo_w1) (w1 := (wr.setCell ⟨g, x5.toNat * 5, none⟩ (.int .i64 (x1)))) ?hg ?ho ?hn ?hr ?_; (case ho => rfl); (case hg => rfl); (case hn => rfl); (case hr => first | (go_simp; done) | (go_simp; rfl)); intro w1 hw; have hp_ := EX_put0 HS.out P0.out P1.out (x1); have hg : wr.grownBy w1 (some g) := (by rw [hw]; exact hp_.2); have n0_ := Aside0.mk (show Kd.R k45 45 w1 w0.heap.size P0_ (.slice (some ⟨g, 0, none⟩) n c0) (x0.set x5.toNat (⟨x1, ⟨(rd_T45 x0 x5).f1.f0, (rd_T45 x0 x5).f1.f1⟩, ⟨(rd_T45 x0 x5).f2.f0, (rd_T45 x0 x5).f2.f1⟩⟩ : S45)) from (by rw [hw]; exact hp_.1)); have n1_ := Aside0.mk ((by rw [hw]; exact below_set (HB.out) GB.out : Below w0.heap.size w0 w1)); have n2_ := Aside0.mk (Kept.of_grown (S := P0_) hg HK.out (fun k_ e_ => .inl (by cases e_; exact GO.out))); clear hp_ HS HB HK hx0 hx1 hx2 hx3 hx4 hf0 hf1 hf2 hf3 hf4; have HS := n0_; have HB := n1_; have HK := n2_; clear n0_ n1_ n2_ hg hw; obtain ⟨⟨hx0, hx1, hx2, hx3, hx4⟩, hf⟩ := EX_at HS.out P0.out P1.out; have hf0 := hf 0; have hf1 := hf 1; have hf2 := hf 2; have hf3 := hf 3; have hf4 := hf 4; try simp only [Nat.add_zero] at hf0; clear hf) | ((with_reducible refine gate_store (t := 3) (p := 24) rfl ?_); refine store_event (t := 3) (p := 24) (v := ?vo_w2) (w1 := (w1.setCell ⟨g, x5.toNat * 5 + 1, none⟩ (.int .i64 (wrap64 (x1 + 1))))) ?hg ?ho ?hn ?hr ?_; (case ho => rfl); (case hg => rfl); (case hn => rfl); (case hr => first | (go_simp; done) | (go_simp; rfl)); intro w2 hw; have hp_ := EX_put1 HS.out P0.out P1.out (wrap64 (x1 + 1)); have hg : w1.grownBy w2 (some g) := (by rw [hw]; exact hp_.2); have n0_ := Aside0.mk (show Kd.R k45 45 w2 w0.heap.size P0_ (.slice (some ⟨g, 0, none⟩) n c0) (x0.set x5.toNat (⟨x1, ⟨wrap64 (x1 + 1), (rd_T45 x0 x5).f1.f1⟩, ⟨(rd_T45 x0 x5).f2.f0, (rd_T45 x0 x5).f2.f1⟩⟩ : S45)) from (by rw [hw]; exact hp_.1)); have n1_ := Aside0.mk ((by rw [hw]; exact below_set (HB.out) GB.out : Below w0.heap.size w0 w2)); have n2_ := Aside0.mk (Kept.of_grown (S := P0_) hg HK.out (fun k_ e_ => .inl (by cases e_; exact GO.out))); clear hp_ HS HB HK hx0 hx1 hx2 hx3 hx4 hf0 hf1 hf2 hf3 hf4; have HS := n0_; have HB := n1_; have HK := n2_; clear n0_ n1_ n2_ hg hw; obtain ⟨⟨hx0, hx1, hx2, hx3, hx4⟩, hf⟩ := EX_at HS.out P0.out P1.out; have hf0 := hf 0; have hf1 := hf 1; have hf2 := hf 2; have hf3 := hf 3; have hf4 := hf 4; try simp only [Nat.add_zero] at hf0; clear hf) | ((with_reducible refine gate_store (t := 3) (p := 32) rfl ?_); refine store_event (t := 3) (p := 32) (v := ?vo_w3) (w1 := (w2.setCell ⟨g, x5.toNat * 5 + 2, none⟩ (.int .i64 (wrap64 (wrap64 (x1 + 1) + 1))))) ?hg ?ho ?hn ?hr ?_; (case ho => rfl); (case hg => rfl); (case hn => rfl); (case hr => first | (go_simp; done) | (go_simp; rfl)); intro w3 hw; have hp_ := EX_put2 HS.out P0.out P1.out (wrap64 (wrap64 (x1 + 1) + 1)); have hg : w2.grownBy w3 (some g) := (by rw [hw]; exact hp_.2); have n0_ := Aside0.mk (show Kd.R k45 45 w3 w0.heap.size P0_ (.slice (some ⟨g, 0, none⟩) n c0) (x0.set x5.toNat (⟨x1, ⟨wrap64 (x1 + 1), wrap64 (wrap64 (x1 + 1) + 1)⟩, ⟨(rd_T45 x0 x5).f2.f0, (rd_T45 x0 x5).f2.f1⟩⟩ : S45)) from (by rw [hw]; exact hp_.1)); have n1_ := Aside0.mk ((by rw [hw]; exact below_set (HB.out) GB.out : Below w0.heap.size w0 w3)); have n2_ := Aside0.mk (Kept.of_grown (S := P0_) hg HK.out (fun k_ e_ => .inl (by cases e_; exact GO.out))); clear hp_ HS HB HK hx0 hx1 hx2 hx3 hx4 hf0 hf1 hf2 hf3 hf4; have HS := n0_; have HB := n1_; have HK := n2_; clear n0_ n1_ n2_ hg hw; obtain ⟨⟨hx0, hx1, hx2, hx3, hx4⟩, hf⟩ := EX_at HS.out P0.out P1.out; have hf0 := hf 0; have hf1 := hf 1; have hf2 := hf 2; have hf3 := hf 3; have hf4 := hf 4; try simp only [Nat.add_zero] at hf0; clear hf) | ((with_reducible refine gate_store (t := 3) (p := 40) rfl ?_); refine store_event (t := 3) (p := 40) (v := ?vo_w4) (w1 := (w3.setCell ⟨g, x5.toNat * 5 + 3, none⟩ (.int .i64 (wrap64 (wrap64 (wrap64 (x1 + 1) + 1) + 1))))) ?hg ?ho ?hn ?hr ?_; (case ho => rfl); (case hg => rfl); (case hn => rfl); (case hr => first | (go_simp; done) | (go_simp; rfl)); intro w4 hw; have hp_ := EX_put3 HS.out P0.out P1.out (wrap64 (wrap64 (wrap64 (x1 + 1) + 1) + 1)); have hg : w3.grownBy w4 (some g) := (by rw [hw]; exact hp_.2); have n0_ := Aside0.mk (show Kd.R k45 45 w4 w0.heap.size P0_ (.slice (some ⟨g, 0, none⟩) n c0) (x0.set x5.toNat (⟨x1, ⟨wrap64 (x1 + 1), wrap64 (wrap64 (x1 + 1) + 1)⟩, ⟨wrap64 (wrap64 (wrap64 (x1 + 1) + 1) + 1), (rd_T45 x0 x5).f2.f1⟩⟩ : S45)) from (by rw [hw]; exact hp_.1)); have n1_ := Aside0.mk ((by rw [hw]; exact below_set (HB.out) GB.out : Below w0.heap.size w0 w4)); have n2_ := Aside0.mk (Kept.of_grown (S := P0_) hg HK.out (fun k_ e_ => .inl (by cases e_; exact GO.out))); clear hp_ HS HB HK hx0 hx1 hx2 hx3 hx4 hf0 hf1 hf2 hf3 hf4; have HS := n0_; have HB := n1_; have HK := n2_; clear n0_ n1_ n2_ hg hw; obtain ⟨⟨hx0, hx1, hx2, hx3, hx4⟩, hf⟩ := EX_at HS.out P0.out P1.out; have hf0 := hf 0; have hf1 := hf 1; have hf2 := hf 2; have hf3 := hf 3; have hf4 := hf 4; try simp only [Nat.add_zero] at hf0; clear hf) | ((with_reducible refine gate_store (t := 3) (p := 48) rfl ?_); refine store_event (t := 3) (p := 48) (v := ?vo_w5) (w1 := (w4.setCell ⟨g, x5.toNat * 5 + 4, none⟩ (.int .i64 (wrap64 (wrap64 (wrap64 (wrap64 (x1 + 1) + 1) + 1) + 1))))) ?hg ?ho ?hn ?hr ?_; (case ho => rfl); (case hg => rfl); (case hn => rfl); (case hr => first | (go_simp; done) | (go_simp; rfl)); intro w5 hw; have hp_ := EX_put4 HS.out P0.out P1.out (wrap64 (wrap64 (wrap64 (wrap64 (x1 + 1) + 1) + 1) + 1)); have hg : w4.grownBy w5 (some g) := (by rw [hw]; exact hp_.2); have n0_ := Aside0.mk (show Kd.R k45 45 w5 w0.heap.size P0_ (.slice (some ⟨g, 0, none⟩) n c0) (x0.set x5.toNat (⟨x1, ⟨wrap64 (x1 + 1), wrap64 (wrap64 (x1 + 1) + 1)⟩, ⟨wrap64 (wrap64 (wrap64 (x1 + 1) + 1) + 1), wrap64 (wrap64 (wrap64 (wrap64 (x1 + 1) + 1) + 1) + 1)⟩⟩ : S45)) from (by rw [hw]; exact hp_.1)); have n1_ := Aside0.mk ((by rw [hw]; exact below_set (HB.out) GB.out : Below w0.heap.size w0 w5)); have n2_ := Aside0.mk (Kept.of_grown (S := P0_) hg HK.out (fun k_ e_ => .inl (by cases e_; exact GO.out))); clear hp_ HS HB HK hx0 hx1 hx2 hx3 hx4 hf0 hf1 hf2 hf3 hf4; have HS := n0_; have HB := n1_; have HK := n2_; clear n0_ n1_ n2_ hg hw)); try go_wp2_with (first | ((with_reducible refine gate_store (t := 3) (p := 16) rfl ?_); refine store_event (t := 3) (p := 16) (v := ?vo_w1) (w1 := (wr.setCell ⟨g, x5.toNat * 5, none⟩ (.int .i64 (x1)))) ?hg ?ho ?hn ?hr ?_; (case ho => rfl); (case hg => rfl); (case hn => rfl); (case hr => first | (go_simp; done) | (go_simp; rfl)); intro w1 hw; have hp_ := EX_put0 HS.out P0.out P1.out (x1); have hg : wr.grownBy w1 (some g) := (by rw [hw]; exact hp_.2); have n0_ := Aside0.mk (show Kd.R k45 45 w1 w0.heap.size P0_ (.slice (some ⟨g, 0, none⟩) n c0) (x0.set x5.toNat (⟨x1, ⟨(rd_T45 x0 x5).f1.f0, (rd_T45 x0 x5).f1.f1⟩, ⟨(rd_T45 x0 x5).f2.f0, (rd_T45 x0 x5).f2.f1⟩⟩ : S45)) from (by rw [hw]; exact hp_.1)); have n1_ := Aside0.mk ((by rw [hw]; exact below_set (HB.out) GB.out : Below w0.heap.size w0 w1)); have n2_ := Aside0.mk (Kept.of_grown (S := P0_) hg HK.out (fun k_ e_ => .inl (by cases e_; exact GO.out))); clear hp_ HS HB HK hx0 hx1 hx2 hx3 hx4 hf0 hf1 hf2 hf3 hf4; have HS := n0_; have HB := n1_; have HK := n2_; clear n0_ n1_ n2_ hg hw; obtain ⟨⟨hx0, hx1, hx2, hx3, hx4⟩, hf⟩ := EX_at HS.out P0.out P1.out; have hf0 := hf 0; have hf1 := hf 1; have hf2 := hf 2; have hf3 := hf 3; have hf4 := hf 4; try simp only [Nat.add_zero] at hf0; clear hf) | ((with_reducible refine gate_store (t := 3) (p := 24) rfl ?_); refine store_event (t := 3) (p := 24) (v := ?vo_w2) (w1 := (w1.setCell ⟨g, x5.toNat * 5 + 1, none⟩ (.int .i64 (wrap64 (x1 + 1))))) ?hg ?ho ?hn ?hr ?_; (case ho => rfl); (case hg => rfl); (case hn => rfl); (case hr => first | (go_simp; done) | (go_simp; rfl)); intro w2 hw; have hp_ := EX_put1 HS.out P0.out P1.out (wrap64 (x1 + 1)); have hg : w1.grownBy w2 (some g) := (by rw [hw]; exact hp_.2); have n0_ := Aside0.mk (show Kd.R k45 45 w2 w0.heap.size P0_ (.slice (some ⟨g, 0, none⟩) n c0) (x0.set x5.toNat (⟨x1, ⟨wrap64 (x1 + 1), (rd_T45 x0 x5).f1.f1⟩, ⟨(rd_T45 x0 x5).f2.f0, (rd_T45 x0 x5).f2.f1⟩⟩ : S45)) from (by rw [hw]; exact hp_.1)); have n1_ := Aside0.mk ((by rw [hw]; exact below_set (HB.out) GB.out : Below w0.heap.size w0 w2)); have n2_ := Aside0.mk (Kept.of_grown (S := P0_) hg HK.out (fun k_ e_ => .inl (by cases e_; exact GO.out))); clear hp_ HS HB HK hx0 hx1 hx2 hx3 hx4 hf0 hf1 hf2 hf3 hf4; have HS := n0_; have HB := n1_; have HK := n2_; clear n0_ n1_ n2_ hg hw; obtain ⟨⟨hx0, hx1, hx2, hx3, hx4⟩, hf⟩ := EX_at HS.out P0.out P1.out; have hf0 := hf 0; have hf1 := hf 1; have hf2 := hf 2; have hf3 := hf 3; have hf4 := hf 4; try simp only [Nat.add_zero] at hf0; clear hf) | ((with_reducible refine gate_store (t := 3) (p := 32) rfl ?_); refine store_event (t := 3) (p := 32) (v := ?vo_w3) (w1 := (w2.setCell ⟨g, x5.toNat * 5 + 2, none⟩ (.int .i64 (wrap64 (wrap64 (x1 + 1) + 1))))) ?hg ?ho ?hn ?hr ?_; (case ho => rfl); (case hg => rfl); (case hn => rfl); (case hr => first | (go_simp; done) | (go_simp; rfl)); intro w3 hw; have hp_ := EX_put2 HS.out P0.out P1.out (wrap64 (wrap64 (x1 + 1) + 1)); have hg : w2.grownBy w3 (some g) := (by rw [hw]; exact hp_.2); have n0_ := Aside0.mk (show Kd.R k45 45 w3 w0.heap.size P0_ (.slice (some ⟨g, 0, none⟩) n c0) (x0.set x5.toNat (⟨x1, ⟨wrap64 (x1 + 1), wrap64 (wrap64 (x1 + 1) + 1)⟩, ⟨(rd_T45 x0 x5).f2.f0, (rd_T45 x0 x5).f2.f1⟩⟩ : S45)) from (by rw [hw]; exact hp_.1)); have n1_ := Aside0.mk ((by rw [hw]; exact below_set (HB.out) GB.out : Below w0.heap.size w0 w3)); have n2_ := Aside0.mk (Kept.of_grown (S := P0_) hg HK.out (fun k_ e_ => .inl (by cases e_; exact GO.out))); clear hp_ HS HB HK hx0 hx1 hx2 hx3 hx4 hf0 hf1 hf2 hf3 hf4; have HS := n0_; have HB := n1_; have HK := n2_; clear n0_ n1_ n2_ hg hw; obtain ⟨⟨hx0, hx1, hx2, hx3, hx4⟩, hf⟩ := EX_at HS.out P0.out P1.out; have hf0 := hf 0; have hf1 := hf 1; have hf2 := hf 2; have hf3 := hf 3; have hf4 := hf 4; try simp only [Nat.add_zero] at hf0; clear hf) | ((with_reducible refine gate_store (t := 3) (p := 40) rfl ?_); refine store_event (t := 3) (p := 40) (v := ?vo_w4) (w1 := (w3.setCell ⟨g, x5.toNat * 5 + 3, none⟩ (.int .i64 (wrap64 (wrap64 (wrap64 (x1 + 1) + 1) + 1))))) ?hg ?ho ?hn ?hr ?_; (case ho => rfl); (case hg => rfl); (case hn => rfl); (case hr => first | (go_simp; done) | (go_simp; rfl)); intro w4 hw; have hp_ := EX_put3 HS.out P0.out P1.out (wrap64 (wrap64 (wrap64 (x1 + 1) + 1) + 1)); have hg : w3.grownBy w4 (some g) := (by rw [hw]; exact hp_.2); have n0_ := Aside0.mk (show Kd.R k45 45 w4 w0.heap.size P0_ (.slice (some ⟨g, 0, none⟩) n c0) (x0.set x5.toNat (⟨x1, ⟨wrap64 (x1 + 1), wrap64 (wrap64 (x1 + 1) + 1)⟩, ⟨wrap64 (wrap64 (wrap64 (x1 + 1) + 1) + 1), (rd_T45 x0 x5).f2.f1⟩⟩ : S45)) from (by rw [hw]; exact hp_.1)); have n1_ := Aside0.mk ((by rw [hw]; exact below_set (HB.out) GB.out : Below w0.heap.size w0 w4)); have n2_ := Aside0.mk (Kept.of_grown (S := P0_) hg HK.out (fun k_ e_ => .inl (by cases e_; exact GO.out))); clear hp_ HS HB HK hx0 hx1 hx2 hx3 hx4 hf0 hf1 hf2 hf3 hf4; have HS := n0_; have HB := n1_; have HK := n2_; clear n0_ n1_ n2_ hg hw; obtain ⟨⟨hx0, hx1, hx2, hx3, hx4⟩, hf⟩ := EX_at HS.out P0.out P1.out; have hf0 := hf 0; have hf1 := hf 1; have hf2 := hf 2; have hf3 := hf 3; have hf4 := hf 4; try simp only [Nat.add_zero] at hf0; clear hf) | ((with_reducible refine gate_store (t := 3) (p := 48) rfl ?_); refine store_event (t := 3) (p := 48) (v := ?vo_w5) (w1 := (w4.setCell ⟨g, x5.toNat * 5 + 4, none⟩ (.int .i64 (wrap64 (wrap64 (wrap64 (wrap64 (x1 + 1) + 1) + 1) + 1))))) ?hg ?ho ?hn ?hr ?_; (case ho => rfl); (case hg => rfl); (case hn => rfl); (case hr => first | (go_simp; done) | (go_simp; rfl)); intro w5 hw; have hp_ := EX_put4 HS.out P0.out P1.out (wrap64 (wrap64 (wrap64 (wrap64 (x1 + 1) + 1) + 1) + 1)); have hg : w4.grownBy w5 (some g) := (by rw [hw]; exact hp_.2); have n0_ := Aside0.mk (show Kd.R k45 45 w5 w0.heap.size P0_ (.slice (some ⟨g, 0, none⟩) n c0) (x0.set x5.toNat (⟨x1, ⟨wrap64 (x1 + 1), wrap64 (wrap64 (x1 + 1) + 1)⟩, ⟨wrap64 (wrap64 (wrap64 (x1 + 1) + 1) + 1), wrap64 (wrap64 (wrap64 (wrap64 (x1 + 1) + 1) + 1) + 1)⟩⟩ : S45)) from (by rw [hw]; exact hp_.1)); have n1_ := Aside0.mk ((by rw [hw]; exact below_set (HB.out) GB.out : Below w0.heap.size w0 w5)); have n2_ := Aside0.mk (Kept.of_grown (S := P0_) hg HK.out (fun k_ e_ => .inl (by cases e_; exact GO.out))); clear hp_ HS HB HK hx0 hx1 hx2 hx3 hx4 hf0 hf1 hf2 hf3 hf4; have HS := n0_; have HB := n1_; have HK := n2_; clear n0_ n1_ n2_ hg hw)))
          go_roundg k1
          case measure => exact Nat.lt_succ_self _
          case rel => exact ⟨x0.set x5.toNat (⟨x1, ⟨wrap64 (x1 + 1), wrap64 (wrap64 (x1 + 1) + 1)⟩, ⟨wrap64 (wrap64 (wrap64 (x1 + 1) + 1) + 1), wrap64 (wrap64 (wrap64 (wrap64 (x1 + 1) + 1) + 1) + 1)⟩⟩ : S45), wrap64 (wrap64 (wrap64 (wrap64 (wrap64 (x1 + 1) + 1) + 1) + 1) + 1), wrap64 (x5 + 1), rfl, rfl, HA, ⟨by have := HQ.out; omega⟩, ⟨by rw [List.length_set]; exact HN.out⟩, HS, HK, HB⟩
        · rw [if_neg c4] at H
          exact absurd H (by simp)
      · rw [if_neg c3] at H
        have c3b0 : decide (x5 < (n : Int)) = false := decide_eq_false c3
        obtain ⟨rfl, rfl⟩ := Prod.mk.inj (Option.some.inj H)
        clear H c3
        go_wp2
        go_ret
        exact ⟨rfl, Kd.R_mono HS.out (fun _ h_ => .inl h_), HB.out, HK.out⟩
  

/-! ### laws_heldExprS: function 35 -/
def laws_heldExprS.l0 : Nat → List (S45) → Int → Int → Option (Int)
 | 0, _, _, _ => none
 | k + 1, x0, x1, x5 => if x5 < (x0.length : Int) then (if 0 ≤ x5 then (if ((rd_T45 x0 x5).f0) = x1 then (if ((rd_T45 x0 x5).f1.f0) = (wrap64 (x1 + 1)) then (if ((rd_T45 x0 x5).f1.f1) = (wrap64 ((wrap64 (x1 + 1)) + 1)) then (if ((rd_T45 x0 x5).f2.f0) = (wrap64 ((wrap64 ((wrap64 (x1 + 1)) + 1)) + 1)) then (if ((rd_T45 x0 x5).f2.f1) = (wrap64 ((wrap64 ((wrap64 ((wrap64 (x1 + 1)) + 1)) + 1)) + 1)) then (laws_heldExprS.l0 k x0 (wrap64 ((wrap64 ((wrap64 ((wrap64 ((wrap64 (x1 + 1)) + 1)) + 1)) + 1)) + 1)) (wrap64 (x5 + 1))) else (some (-1))) else (some (-1))) else (some (-1))) else (some (-1))) else (some (-1))) else (none)) else (some x1)
def laws_heldExprS.f (k : Nat) (l0 : List (S45)) (a1 : Int) : Option (Int) := laws_heldExprS.l0 k l0 a1 0
theorem laws_heldExprS.mono_l : ∀ k, (∀ y0 y1 y2, LeO (laws_heldExprS.l0 k y0 y1 y2) (laws_heldExprS.l0 (k + 1) y0 y1 y2))
 | 0 => fun _ _ _ r h => by simp [laws_heldExprS.l0] at h
 | k + 1 => by
  have ih0 := laws_heldExprS.mono_l k
  ·intro y0 y1 y2
   unfold laws_heldExprS.l0
   repeat' first
   | (with_reducible exact ih0 _ _ _)
   | (with_reducible exact LeO.refl _)
   | (with_reducible exact LeO.none _)
   | (with_reducible refine LeO.ite ?_ ?_)
   | (with_reducible refine LeO.bind ?_ (fun _ => ?_))
   | exact ih0 _ _ _
   | exact LeO.none _
   | refine LeO.ite ?_ ?_
   | refine LeO.bind ?_ (fun _ => ?_)
theorem laws_heldExprS.mono : ∀ a0 a1 k, LeO (laws_heldExprS.f k a0 a1) (laws_heldExprS.f (k + 1) a0 a1) := by
 intro a0 a1 k
 have ih0 := laws_heldExprS.mono_l k
 unfold laws_heldExprS.f
 repeat' first
   | (with_reducible exact ih0 _ _ _)
   | (with_reducible exact LeO.refl _)
   | (with_reducible exact LeO.none _)
   | (with_reducible refine LeO.ite ?_ ?_)
   | (with_reducible refine LeO.bind ?_ (fun _ => ?_))
   | exact ih0 _ _ _
   | exact LeO.none _
   | refine LeO.ite ?_ ?_
   | refine LeO.bind ?_ (fun _ => ?_)
set_option maxHeartbeats 8000000 in
set_option maxRecDepth 100000 in
theorem laws_heldExprS.calls (k : Nat) (A0 : Option Addr) (c0 : Nat) (l0 : List (S45)) (a1 : Int) (r : Int) (w : World) (hr0 : Kd.C k45 w A0 l0.length l0) (hc0 : l0.length ≤ c0) (h : laws_heldExprS.f k l0 a1 = some r) :
  Calls Try.prog 35 #[.slice A0 l0.length c0, .int .i64 a1] w fun e w' => e = .returned (.int .i64 r) ∧ Drawn0 w w' := by
 have HR0 := Aside0.mk hr0
 have HC0 := Aside0.mk hc0
 clear hr0 hc0
 have H : (laws_heldExprS.l0 k l0 a1 0) = some r := h
 clear h
 have H' := Aside0.mk H
 clear H
 go_enter Try.func35, Try.ntmps35
 go_wp2
 go_loopg [1, 5] k (fun kq v1 v5 w' => ∃ (x1_1 : Int) (x5_1 : Int), v1 = .int .i64 x1_1 ∧ v5 = .int .i64 x5_1 ∧ Aside0 (laws_heldExprS.l0 kq l0 x1_1 x5_1 = some r) ∧ Aside0 (kq ≤ k) ∧ Drawn0 w w')
 case atStart => exact ⟨(a1), (0), (by first | rfl | (simp; done) | (simp [*]; done)), (by first | rfl | (simp; done) | (simp [*]; done)), H', ⟨Nat.le_refl _⟩, by repeat (first | exact Drawn0.refl _ | apply Drawn0.step)⟩
 case round =>
  clear H'
  try clear p2
  obtain ⟨x1_1, x5_1, rfl, rfl, HA, HK1, ⟨m1, rfl⟩⟩ := hrel
  cases gk with
  | zero => exact absurd HA.out (by simp [laws_heldExprS.l0])
  | succ k1 =>
   have H := HA.out
   clear HA
   simp only [laws_heldExprS.l0] at H
   by_cases c3 : x5_1 < (l0.length : Int)
   ·rw [if_pos c3] at H
    have c3b0 : decide (x5_1 < (l0.length : Int)) = true := decide_eq_true c3
    clear c3
    by_cases c4 : 0 ≤ x5_1
    ·rw [if_pos c4] at H
     have c4b0 : decide (0 ≤ x5_1) = true := decide_eq_true c4
     clear c4
     by_cases c5 : ((rd_T45 l0 x5_1).f0) = x1_1
     ·rw [if_pos c5] at H
      have c5b0 : (((rd_T45 l0 x5_1).f0) == x1_1) = true := beq_iff_eq.mpr c5
      have c5b1 : (((rd_T45 l0 x5_1).f0) != x1_1) = false := bne_eq_false_iff_eq.mpr c5
      clear c5
      by_cases c6 : ((rd_T45 l0 x5_1).f1.f0) = (wrap64 (x1_1 + 1))
      ·rw [if_pos c6] at H
       have c6b0 : (((rd_T45 l0 x5_1).f1.f0) == (wrap64 (x1_1 + 1))) = true := beq_iff_eq.mpr c6
       have c6b1 : (((rd_T45 l0 x5_1).f1.f0) != (wrap64 (x1_1 + 1))) = false := bne_eq_false_iff_eq.mpr c6
       clear c6
       by_cases c7 : ((rd_T45 l0 x5_1).f1.f1) = (wrap64 ((wrap64 (x1_1 + 1)) + 1))
       ·rw [if_pos c7] at H
        have c7b0 : (((rd_T45 l0 x5_1).f1.f1) == (wrap64 ((wrap64 (x1_1 + 1)) + 1))) = true := beq_iff_eq.mpr c7
        have c7b1 : (((rd_T45 l0 x5_1).f1.f1) != (wrap64 ((wrap64 (x1_1 + 1)) + 1))) = false := bne_eq_false_iff_eq.mpr c7
        clear c7
        by_cases c8 : ((rd_T45 l0 x5_1).f2.f0) = (wrap64 ((wrap64 ((wrap64 (x1_1 + 1)) + 1)) + 1))
        ·rw [if_pos c8] at H
         have c8b0 : (((rd_T45 l0 x5_1).f2.f0) == (wrap64 ((wrap64 ((wrap64 (x1_1 + 1)) + 1)) + 1))) = true := beq_iff_eq.mpr c8
         have c8b1 : (((rd_T45 l0 x5_1).f2.f0) != (wrap64 ((wrap64 ((wrap64 (x1_1 + 1)) + 1)) + 1))) = false := bne_eq_false_iff_eq.mpr c8
         clear c8
         by_cases c9 : ((rd_T45 l0 x5_1).f2.f1) = (wrap64 ((wrap64 ((wrap64 ((wrap64 (x1_1 + 1)) + 1)) + 1)) + 1))
         ·rw [if_pos c9] at H
          have c9b0 : (((rd_T45 l0 x5_1).f2.f1) == (wrap64 ((wrap64 ((wrap64 ((wrap64 (x1_1 + 1)) + 1)) + 1)) + 1))) = true := beq_iff_eq.mpr c9
          have c9b1 : (((rd_T45 l0 x5_1).f2.f1) != (wrap64 ((wrap64 ((wrap64 ((wrap64 (x1_1 + 1)) + 1)) + 1)) + 1))) = false := bne_eq_false_iff_eq.mpr c9
          clear c9
          have H' := Aside0.mk H
          clear H
          have p427 : 0 ≤ (x5_1 : Int) := of_decide_eq_true (by first | (with_reducible assumption) | assumption)
          have q427 : x5_1 < (l0.length : Int) := of_decide_eq_true (by first | (with_reducible assumption) | assumption)
          obtain ⟨ad427, e427, hx427_0, hx427_1, hx427_2, hx427_3, hx427_4⟩ := at_T45 HR0.out x5_1 p427 q427
          cases e427
          replace p427 := eq_true p427
          replace q427 := eq_true q427
          have p428 : 0 ≤ (x5_1 : Int) := of_decide_eq_true (by first | (with_reducible assumption) | assumption)
          have q428 : x5_1 < (l0.length : Int) := of_decide_eq_true (by first | (with_reducible assumption) | assumption)
          obtain ⟨ad428, e428, hx428_0, hx428_1, hx428_2, hx428_3, hx428_4⟩ := at_T45 HR0.out x5_1 p428 q428
          obtain rfl : ad427 = ad428 := (by injection e428)
          replace p428 := eq_true p428
          replace q428 := eq_true q428
          have p429 : 0 ≤ (x5_1 : Int) := of_decide_eq_true (by first | (with_reducible assumption) | assumption)
          have q429 : x5_1 < (l0.length : Int) := of_decide_eq_true (by first | (with_reducible assumption) | assumption)
          obtain ⟨ad429, e429, hx429_0, hx429_1, hx429_2, hx429_3, hx429_4⟩ := at_T45 HR0.out x5_1 p429 q429
          obtain rfl : ad427 = ad429 := (by injection e429)
          replace p429 := eq_true p429
          replace q429 := eq_true q429
          have p430 : 0 ≤ (x5_1 : Int) := of_decide_eq_true (by first | (with_reducible assumption) | assumption)
          have q430 : x5_1 < (l0.length : Int) := of_decide_eq_true (by first | (with_reducible assumption) | assumption)
          obtain ⟨ad430, e430, hx430_0, hx430_1, hx430_2, hx430_3, hx430_4⟩ := at_T45 HR0.out x5_1 p430 q430
          obtain rfl : ad427 = ad430 := (by injection e430)
          replace p430 := eq_true p430
          replace q430 := eq_true q430
          have p431 : 0 ≤ (x5_1 : Int) := of_decide_eq_true (by first | (with_reducible assumption) | assumption)
          have q431 : x5_1 < (l0.length : Int) := of_decide_eq_true (by first | (with_reducible assumption) | assumption)
          obtain ⟨ad431, e431, hx431_0, hx431_1, hx431_2, hx431_3, hx431_4⟩ := at_T45 HR0.out x5_1 p431 q431
          obtain rfl : ad427 = ad431 := (by injection e431)
          replace p431 := eq_true p431
          replace q431 := eq_true q431
          go_wp2
          go_roundg k1
          case measure => have := HK1.out; omega
          case rel => exact ⟨(wrap64 ((wrap64 ((wrap64 ((wrap64 ((wrap64 (x1_1 + 1)) + 1)) + 1)) + 1)) + 1)), (wrap64 (x5_1 + 1)), (by first | rfl | (simp; done) | (simp [*]; done)), (by first | rfl | (simp; done) | (simp [*]; done)), H', ⟨by have := HK1.out; omega⟩, by repeat (first | exact Drawn0.refl _ | apply Drawn0.step)⟩
         ·rw [if_neg c9] at H
          have c9b0 : (((rd_T45 l0 x5_1).f2.f1) == (wrap64 ((wrap64 ((wrap64 ((wrap64 (x1_1 + 1)) + 1)) + 1)) + 1))) = false := beq_eq_false_iff_ne.mpr c9
          have c9b1 : (((rd_T45 l0 x5_1).f2.f1) != (wrap64 ((wrap64 ((wrap64 ((wrap64 (x1_1 + 1)) + 1)) + 1)) + 1))) = true := bne_iff_ne.mpr c9
          obtain rfl := Option.some.inj H
          have p427 : 0 ≤ (x5_1 : Int) := of_decide_eq_true (by first | (with_reducible assumption) | assumption)
          have q427 : x5_1 < (l0.length : Int) := of_decide_eq_true (by first | (with_reducible assumption) | assumption)
          obtain ⟨ad427, e427, hx427_0, hx427_1, hx427_2, hx427_3, hx427_4⟩ := at_T45 HR0.out x5_1 p427 q427
          cases e427
          replace p427 := eq_true p427
          replace q427 := eq_true q427
          have p428 : 0 ≤ (x5_1 : Int) := of_decide_eq_true (by first | (with_reducible assumption) | assumption)
          have q428 : x5_1 < (l0.length : Int) := of_decide_eq_true (by first | (with_reducible assumption) | assumption)
          obtain ⟨ad428, e428, hx428_0, hx428_1, hx428_2, hx428_3, hx428_4⟩ := at_T45 HR0.out x5_1 p428 q428
          obtain rfl : ad427 = ad428 := (by injection e428)
          replace p428 := eq_true p428
          replace q428 := eq_true q428
          have p429 : 0 ≤ (x5_1 : Int) := of_decide_eq_true (by first | (with_reducible assumption) | assumption)
          have q429 : x5_1 < (l0.length : Int) := of_decide_eq_true (by first | (with_reducible assumption) | assumption)
          obtain ⟨ad429, e429, hx429_0, hx429_1, hx429_2, hx429_3, hx429_4⟩ := at_T45 HR0.out x5_1 p429 q429
          obtain rfl : ad427 = ad429 := (by injection e429)
          replace p429 := eq_true p429
          replace q429 := eq_true q429
          have p430 : 0 ≤ (x5_1 : Int) := of_decide_eq_true (by first | (with_reducible assumption) | assumption)
          have q430 : x5_1 < (l0.length : Int) := of_decide_eq_true (by first | (with_reducible assumption) | assumption)
          obtain ⟨ad430, e430, hx430_0, hx430_1, hx430_2, hx430_3, hx430_4⟩ := at_T45 HR0.out x5_1 p430 q430
          obtain rfl : ad427 = ad430 := (by injection e430)
          replace p430 := eq_true p430
          replace q430 := eq_true q430
          have p431 : 0 ≤ (x5_1 : Int) := of_decide_eq_true (by first | (with_reducible assumption) | assumption)
          have q431 : x5_1 < (l0.length : Int) := of_decide_eq_true (by first | (with_reducible assumption) | assumption)
          obtain ⟨ad431, e431, hx431_0, hx431_1, hx431_2, hx431_3, hx431_4⟩ := at_T45 HR0.out x5_1 p431 q431
          obtain rfl : ad427 = ad431 := (by injection e431)
          replace p431 := eq_true p431
          replace q431 := eq_true q431
          go_wp2
          go_ret
          exact ⟨by first | rfl | (simp; done) | (simp [*]; done), by repeat (first | exact Drawn0.refl _ | apply Drawn0.step)⟩
        ·rw [if_neg c8] at H
         have c8b0 : (((rd_T45 l0 x5_1).f2.f0) == (wrap64 ((wrap64 ((wrap64 (x1_1 + 1)) + 1)) + 1))) = false := beq_eq_false_iff_ne.mpr c8
         have c8b1 : (((rd_T45 l0 x5_1).f2.f0) != (wrap64 ((wrap64 ((wrap64 (x1_1 + 1)) + 1)) + 1))) = true := bne_iff_ne.mpr c8
         obtain rfl := Option.some.inj H
         have p427 : 0 ≤ (x5_1 : Int) := of_decide_eq_true (by first | (with_reducible assumption) | assumption)
         have q427 : x5_1 < (l0.length : Int) := of_decide_eq_true (by first | (with_reducible assumption) | assumption)
         obtain ⟨ad427, e427, hx427_0, hx427_1, hx427_2, hx427_3, hx427_4⟩ := at_T45 HR0.out x5_1 p427 q427
         cases e427
         replace p427 := eq_true p427
         replace q427 := eq_true q427
         have p428 : 0 ≤ (x5_1 : Int) := of_decide_eq_true (by first | (with_reducible assumption) | assumption)
         have q428 : x5_1 < (l0.length : Int) := of_decide_eq_true (by first | (with_reducible assumption) | assumption)
         obtain ⟨ad428, e428, hx428_0, hx428_1, hx428_2, hx428_3, hx428_4⟩ := at_T45 HR0.out x5_1 p428 q428
         obtain rfl : ad427 = ad428 := (by injection e428)
         replace p428 := eq_true p428
         replace q428 := eq_true q428
         have p429 : 0 ≤ (x5_1 : Int) := of_decide_eq_true (by first | (with_reducible assumption) | assumption)
         have q429 : x5_1 < (l0.length : Int) := of_decide_eq_true (by first | (with_reducible assumption) | assumption)
         obtain ⟨ad429, e429, hx429_0, hx429_1, hx429_2, hx429_3, hx429_4⟩ := at_T45 HR0.out x5_1 p429 q429
         obtain rfl : ad427 = ad429 := (by injection e429)
         replace p429 := eq_true p429
         replace q429 := eq_true q429
         have p430 : 0 ≤ (x5_1 : Int) := of_decide_eq_true (by first | (with_reducible assumption) | assumption)
         have q430 : x5_1 < (l0.length : Int) := of_decide_eq_true (by first | (with_reducible assumption) | assumption)
         obtain ⟨ad430, e430, hx430_0, hx430_1, hx430_2, hx430_3, hx430_4⟩ := at_T45 HR0.out x5_1 p430 q430
         obtain rfl : ad427 = ad430 := (by injection e430)
         replace p430 := eq_true p430
         replace q430 := eq_true q430
         go_wp2
         go_ret
         exact ⟨by first | rfl | (simp; done) | (simp [*]; done), by repeat (first | exact Drawn0.refl _ | apply Drawn0.step)⟩
       ·rw [if_neg c7] at H
        have c7b0 : (((rd_T45 l0 x5_1).f1.f1) == (wrap64 ((wrap64 (x1_1 + 1)) + 1))) = false := beq_eq_false_iff_ne.mpr c7
        have c7b1 : (((rd_T45 l0 x5_1).f1.f1) != (wrap64 ((wrap64 (x1_1 + 1)) + 1))) = true := bne_iff_ne.mpr c7
        obtain rfl := Option.some.inj H
        have p427 : 0 ≤ (x5_1 : Int) := of_decide_eq_true (by first | (with_reducible assumption) | assumption)
        have q427 : x5_1 < (l0.length : Int) := of_decide_eq_true (by first | (with_reducible assumption) | assumption)
        obtain ⟨ad427, e427, hx427_0, hx427_1, hx427_2, hx427_3, hx427_4⟩ := at_T45 HR0.out x5_1 p427 q427
        cases e427
        replace p427 := eq_true p427
        replace q427 := eq_true q427
        have p428 : 0 ≤ (x5_1 : Int) := of_decide_eq_true (by first | (with_reducible assumption) | assumption)
        have q428 : x5_1 < (l0.length : Int) := of_decide_eq_true (by first | (with_reducible assumption) | assumption)
        obtain ⟨ad428, e428, hx428_0, hx428_1, hx428_2, hx428_3, hx428_4⟩ := at_T45 HR0.out x5_1 p428 q428
        obtain rfl : ad427 = ad428 := (by injection e428)
        replace p428 := eq_true p428
        replace q428 := eq_true q428
        have p429 : 0 ≤ (x5_1 : Int) := of_decide_eq_true (by first | (with_reducible assumption) | assumption)
        have q429 : x5_1 < (l0.length : Int) := of_decide_eq_true (by first | (with_reducible assumption) | assumption)
        obtain ⟨ad429, e429, hx429_0, hx429_1, hx429_2, hx429_3, hx429_4⟩ := at_T45 HR0.out x5_1 p429 q429
        obtain rfl : ad427 = ad429 := (by injection e429)
        replace p429 := eq_true p429
        replace q429 := eq_true q429
        go_wp2
        go_ret
        exact ⟨by first | rfl | (simp; done) | (simp [*]; done), by repeat (first | exact Drawn0.refl _ | apply Drawn0.step)⟩
      ·rw [if_neg c6] at H
       have c6b0 : (((rd_T45 l0 x5_1).f1.f0) == (wrap64 (x1_1 + 1))) = false := beq_eq_false_iff_ne.mpr c6
       have c6b1 : (((rd_T45 l0 x5_1).f1.f0) != (wrap64 (x1_1 + 1))) = true := bne_iff_ne.mpr c6
       obtain rfl := Option.some.inj H
       have p427 : 0 ≤ (x5_1 : Int) := of_decide_eq_true (by first | (with_reducible assumption) | assumption)
       have q427 : x5_1 < (l0.length : Int) := of_decide_eq_true (by first | (with_reducible assumption) | assumption)
       obtain ⟨ad427, e427, hx427_0, hx427_1, hx427_2, hx427_3, hx427_4⟩ := at_T45 HR0.out x5_1 p427 q427
       cases e427
       replace p427 := eq_true p427
       replace q427 := eq_true q427
       have p428 : 0 ≤ (x5_1 : Int) := of_decide_eq_true (by first | (with_reducible assumption) | assumption)
       have q428 : x5_1 < (l0.length : Int) := of_decide_eq_true (by first | (with_reducible assumption) | assumption)
       obtain ⟨ad428, e428, hx428_0, hx428_1, hx428_2, hx428_3, hx428_4⟩ := at_T45 HR0.out x5_1 p428 q428
       obtain rfl : ad427 = ad428 := (by injection e428)
       replace p428 := eq_true p428
       replace q428 := eq_true q428
       go_wp2
       go_ret
       exact ⟨by first | rfl | (simp; done) | (simp [*]; done), by repeat (first | exact Drawn0.refl _ | apply Drawn0.step)⟩
     ·rw [if_neg c5] at H
      have c5b0 : (((rd_T45 l0 x5_1).f0) == x1_1) = false := beq_eq_false_iff_ne.mpr c5
      have c5b1 : (((rd_T45 l0 x5_1).f0) != x1_1) = true := bne_iff_ne.mpr c5
      obtain rfl := Option.some.inj H
      have p427 : 0 ≤ (x5_1 : Int) := of_decide_eq_true (by first | (with_reducible assumption) | assumption)
      have q427 : x5_1 < (l0.length : Int) := of_decide_eq_true (by first | (with_reducible assumption) | assumption)
      obtain ⟨ad427, e427, hx427_0, hx427_1, hx427_2, hx427_3, hx427_4⟩ := at_T45 HR0.out x5_1 p427 q427
      cases e427
      replace p427 := eq_true p427
      replace q427 := eq_true q427
      go_wp2
      go_ret
      exact ⟨by first | rfl | (simp; done) | (simp [*]; done), by repeat (first | exact Drawn0.refl _ | apply Drawn0.step)⟩
    ·rw [if_neg c4] at H
     exact absurd H (by simp)
   ·rw [if_neg c3] at H
    have c3b0 : decide (x5_1 < (l0.length : Int)) = false := decide_eq_false c3
    clear c3
    obtain rfl := Option.some.inj H
    go_wp2
    go_ret
    exact ⟨by first | rfl | (simp; done) | (simp [*]; done), by repeat (first | exact Drawn0.refl _ | apply Drawn0.step)⟩

end Go.Proofs.Ytkehjekbglajhaa.F
