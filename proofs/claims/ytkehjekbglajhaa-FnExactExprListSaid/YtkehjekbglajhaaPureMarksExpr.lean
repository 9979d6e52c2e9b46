/- Marks of a row of reckonings. -/
import Derived.Test.YtkehjekbglajhaaPureMarks
import Derived.Test.YtkehjekbglajhaaF20
import Derived.Test.YtkehjekbglajhaaF20
import Derived.Test.YtkehjekbglajhaaF20
namespace Go.Proofs.Ytkehjekbglajhaa.Pure
open Go.RowKit Go.Proofs.Ytkehjekbglajhaa.F Go.Proofs.YtkehjekbglajhaaW.PrintWords Go.Proofs.YtkehjekbglajhaaW.PrintLast

abbrev Expr := S45
theorem expr_get (x : List Expr) (i : Nat) (h : i < x.length) : rd_T45 x (i : Int) = x[i] := getD_getElem x _ (i : Int) (by omega) (by omega)
def offE (i : Nat) : Int := 1 + 5 * (i : Int)
def markedE (i : Nat) : Expr := ⟨offE i, ⟨offE i + 1, offE i + 2⟩, ⟨offE i + 3, offE i + 4⟩⟩
def markE (n : Nat) : List Expr := (List.range n).map markedE
theorem markE_len (n : Nat) : (markE n).length = n := by simp [markE]
theorem wraps5 (x : Int) (h0 : 0 ≤ x) (h1 : x ≤ 4611686018427387904) : wrap64 (x + 1) = x + 1 ∧ wrap64 (x + 1 + 1) = x + 2 ∧ wrap64 (x + 2 + 1) = x + 3 ∧ wrap64 (x + 3 + 1) = x + 4 ∧ wrap64 (x + 4 + 1) = x + 5 := by
  refine ⟨wrap_id (by omega) (by omega), ?_, ?_, ?_, ?_⟩ <;> (unfold wrap64; omega)
theorem marksExpr (g : List Expr) (hl : g.length ≤ 1048576) : ∃ m g', 0 ≤ m ∧ g.length = g'.length ∧ Ev (fun k => laws_markExprS.f k g 1) (m, g') ∧ Ev (fun k => laws_heldExprS.f k g' 1) m := by
  refine ⟨offE g.length, markE g.length, by unfold offE; omega, (markE_len _).symm, ?_, ?_⟩
  · unfold laws_markExprS.f
    refine Ev.congr (f := fun k => laws_markExprS.l0 k g (offE 0) 0) (fun k => by rfl) (ev_mark (g := fun k l x i => laws_markExprS.l0 k l x i) g markedE offE (fun x0 i hx hi he => Leads.step (fun k => ?_)) (fun k => ?_))
    · obtain ⟨e1, e2, e3, e4, e5⟩ := wraps5 (offE i) (by unfold offE; omega) (by unfold offE; omega)
      simp only [laws_markExprS.l0]
      rw [if_pos (by omega), if_pos (by omega), e1, e2, e3, e4, e5, wrap_id (x := (i : Int) + 1) (by omega) (by omega), show offE (i + 1) = offE i + 5 by unfold offE; omega]
      simp [markedE]
    · simp only [laws_markExprS.l0]
      rw [if_neg (by simp)]
      rfl
  · unfold laws_heldExprS.f
    refine Ev.congr (f := fun k => laws_heldExprS.l0 k (markE g.length) (offE 0) 0) (fun k => by rfl) (ev_held (g := fun k x i => laws_heldExprS.l0 k (markE g.length) x i) g.length offE (fun i hi => Leads.step (fun k => ?_)) (fun k => ?_))
    · obtain ⟨e1, e2, e3, e4, e5⟩ := wraps5 (offE i) (by unfold offE; omega) (by unfold offE; omega)
      have hr : rd_T45 (markE g.length) (i : Int) = markedE i := by
        rw [expr_get _ i (by rw [markE_len]; exact hi)]
        unfold markE
        rw [List.getElem_map, List.getElem_range]
      simp only [laws_heldExprS.l0]
      rw [if_pos (by rw [markE_len]; omega), if_pos (by omega), hr, e1, e2, e3, e4, e5, wrap_id (x := (i : Int) + 1) (by omega) (by omega), show offE (i + 1) = offE i + 5 by unfold offE; omega]
      simp [markedE]
    · simp only [laws_heldExprS.l0]
      rw [if_neg (by rw [markE_len]; omega)]
theorem eqExprEv (g : List Expr) (hl : g.length ≤ 1048576) : Ev (fun k => laws_eqExprS.f k g g) true := by
  unfold laws_eqExprS.f
  refine Ev.congr (f := fun k => laws_eqExprS.l0 k g g 0) (fun k => by rw [if_pos rfl]) (ev_held (g := fun k _ i => laws_eqExprS.l0 k g g i) g.length (fun _ => 0) (fun i hi => Leads.step (fun k => ?_)) (fun k => ?_))
  · simp only [laws_eqExprS.l0, laws_eqExpr.f, laws_eqOpnd.f]
    rw [if_pos (by omega), if_pos (by omega), if_pos (by omega), wrap_id (x := (i : Int) + 1) (by omega) (by omega)]
    simp
  · simp only [laws_eqExprS.l0]
    rw [if_neg (by omega)]
end Go.Proofs.Ytkehjekbglajhaa.Pure
