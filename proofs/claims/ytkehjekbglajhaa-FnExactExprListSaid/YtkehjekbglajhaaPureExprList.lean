/- ExprList: both tell each reckoning once, in the order of the steps. -/
import Derived.Test.YtkehjekbglajhaaPureFlowReach
import Derived.Test.YtkehjekbglajhaaPureLoops
import Derived.Test.YtkehjekbglajhaaF20
import Derived.Test.YtkehjekbglajhaaF20
namespace Go.Proofs.Ytkehjekbglajhaa.Pure
set_option linter.unusedVariables false
open Go.RowKit Go.Proofs.Ytkehjekbglajhaa.F Go.Proofs.YtkehjekbglajhaaW.PrintWords Go.Proofs.YtkehjekbglajhaaW.PrintLast

/-- Is this reckoning that one? -/
def sameE (x : S45) (e0 e1 e2 e3 e4 : Int) : Bool := x.f0 == e0 && ((x.f1.f0 == e1 && (x.f1.f1 == e2)) && (x.f2.f0 == e3 && (x.f2.f1 == e4)))
def exprOf (s : Step) : S45 := ⟨s.f2, ⟨s.f3.f0, s.f3.f1⟩, ⟨s.f4.f0, s.f4.f1⟩⟩
def hasE (a : List S45) (s : Step) : Bool := a.any fun x => sameE x s.f2 s.f3.f0 s.f3.f1 s.f4.f0 s.f4.f1
def addE (a : List S45) (s : Step) : List S45 := if s.f0 = 1 then (if hasE a s then a else a ++ [exprOf s]) else a
/-- All reckonings of a program. -/
def exprsOf (l : List Step) : List S45 := l.foldl addE []
theorem addE_len (a : List S45) (s : Step) : (addE a s).length ≤ a.length + 1 := by
  unfold addE
  split
  · split
    · omega
    · simp
  · omega
theorem fold_len (l : List Step) : ∀ a, (l.foldl addE a).length ≤ a.length + l.length := by
  induction l with
  | nil => intro a; simp
  | cons s l ih =>
    intro a
    have h1 := ih (addE a s)
    have h2 := addE_len a s
    simp only [List.foldl_cons, List.length_cons]
    omega
theorem take_fold_succ (l : List Step) (i : Nat) (hi : i < l.length) : (l.take (i + 1)).foldl addE [] = addE ((l.take i).foldl addE []) l[i] := by
  rw [List.take_succ_eq_append_getElem hi, List.foldl_append]
  rfl
theorem expr_rd (x : List S45) (i : Int) (h0 : 0 ≤ i) (h1 : i < (x.length : Int)) : ∃ h : i.toNat < x.length, rd_T45 x i = x[i.toNat] := ⟨by omega, getD_getElem x _ i h0 (by omega)⟩
theorem specHasE (a : List S45) (hl : a.length ≤ 1000) (e0 e1 e2 e3 e4 : Int) : Ev (fun k => spec_l11Has.f k a e0 e1 e2 e3 e4) (a.any fun x => sameE x e0 e1 e2 e3 e4) := by
  unfold spec_l11Has.f
  obtain ⟨r, hr, hq⟩ := ev_loop (g := fun k (i : Int) => spec_l11Has.l0 k a i e0 e1 e2 e3 e4) (fun i => 0 ≤ i ∧ i ≤ a.length ∧ ((a.drop i.toNat).any fun x => sameE x e0 e1 e2 e3 e4) = a.any fun x => sameE x e0 e1 e2 e3 e4) (fun i => (a.length - i).toNat) (fun r => r = a.any fun x => sameE x e0 e1 e2 e3 e4)
    (fun i ⟨h0, h1, h2⟩ => by
      by_cases hlt : i < (a.length : Int)
      · obtain ⟨hi, hg⟩ := expr_rd a i h0 hlt
        have hd : a.drop i.toNat = a[i.toNat] :: a.drop (i + 1).toNat := by rw [List.drop_eq_getElem_cons hi, show (i + 1).toNat = i.toNat + 1 by omega]
        rw [hd, List.any_cons] at h2
        cases hc : sameE a[i.toNat] e0 e1 e2 e3 e4 with
        | true =>
          refine .inr ⟨true, ev_const 1 (fun k => ?_), by rw [← h2, hc]; rfl⟩
          simp only [spec_l11Has.l0]
          rw [if_pos hlt, if_pos h0, hg]
          unfold sameE at hc
          rw [hc]
          rfl
        | false =>
          refine .inl ⟨i + 1, ⟨by omega, by omega, by rw [← h2, hc]; rfl⟩, by omega, Leads.step (fun k => ?_)⟩
          simp only [spec_l11Has.l0]
          rw [if_pos hlt, if_pos h0, hg]
          unfold sameE at hc
          rw [hc, wrap_id (by omega) (by omega)]
          rfl
      · refine .inr ⟨false, ev_const 1 (fun k => ?_), by rw [← h2, List.drop_eq_nil_of_le (by omega)]; rfl⟩
        simp only [spec_l11Has.l0]
        rw [if_neg hlt]) 0 ⟨by omega, by omega, by simp⟩
  rw [← hq]
  exact hr
theorem implHasE (a : List S45) (hl : a.length ≤ 1000) (e0 e1 e2 e3 e4 : Int) : Ev (fun k => impl_Expr_80.f k a e0 e1 e2 e3 e4) (a.any fun x => sameE x e0 e1 e2 e3 e4) := by
  unfold impl_Expr_80.f impl_Expr_109.f
  have hsym : ∀ x : S45, (e0 == x.f0 && ((e1 == x.f1.f0 && (e2 == x.f1.f1)) && (e3 == x.f2.f0 && (e4 == x.f2.f1)))) = sameE x e0 e1 e2 e3 e4 := by
    intro x
    unfold sameE
    rw [Bool.eq_iff_iff]
    simp
    constructor <;> (rintro ⟨a1, ⟨a2, a3⟩, a4, a5⟩; exact ⟨a1.symm, ⟨a2.symm, a3.symm⟩, a4.symm, a5.symm⟩)
  obtain ⟨r, hr, hq⟩ := ev_loop (g := fun k (i : Int) => impl_Expr_109.l0 k a (a.length : Int) i e0 e1 e2 e3 e4) (fun i => 0 ≤ i ∧ i ≤ a.length ∧ ((a.drop i.toNat).any fun x => sameE x e0 e1 e2 e3 e4) = a.any fun x => sameE x e0 e1 e2 e3 e4) (fun i => (a.length - i).toNat) (fun r => decide (r ≥ 0) = a.any fun x => sameE x e0 e1 e2 e3 e4)
    (fun i ⟨h0, h1, h2⟩ => by
      by_cases hlt : i < (a.length : Int)
      · obtain ⟨hi, hg⟩ := expr_rd a i h0 hlt
        have hd : a.drop i.toNat = a[i.toNat] :: a.drop (i + 1).toNat := by rw [List.drop_eq_getElem_cons hi, show (i + 1).toNat = i.toNat + 1 by omega]
        rw [hd, List.any_cons] at h2
        cases hc : sameE a[i.toNat] e0 e1 e2 e3 e4 with
        | true =>
          refine .inr ⟨i, ev_const 1 (fun k => ?_), by rw [← h2, hc]; simp [h0]⟩
          simp only [impl_Expr_109.l0]
          rw [if_pos hlt, if_pos h0, if_pos hlt, hg, hsym, hc]
          rfl
        | false =>
          refine .inl ⟨i + 1, ⟨by omega, by omega, by rw [← h2, hc]; rfl⟩, by omega, Leads.step (fun k => ?_)⟩
          simp only [impl_Expr_109.l0]
          rw [if_pos hlt, if_pos h0, if_pos hlt, hg, hsym, hc, wrap_id (by omega) (by omega)]
          rfl
      · refine .inr ⟨-1, ev_const 1 (fun k => ?_), by rw [← h2, List.drop_eq_nil_of_le (by omega)]; rfl⟩
        simp only [impl_Expr_109.l0]
        rw [if_neg hlt]) 0 ⟨by omega, by omega, by simp⟩
  exact Ev.bind hr (ev_const 0 (fun k => by rw [hq]))
theorem specList (l : List Step) (hl : l.length ≤ 60) : Ev (fun k => spec_ExprList.l0 k [] 0 l) (exprsOf l) := by
  obtain ⟨s, hs, hL⟩ := leads_to (g := fun k i (s : List S45) => spec_ExprList.l0 k s i l) (n := l.length) (by omega) (fun i s => s = (l.take i.toNat).foldl addE []) (fun i s h0 h1 hs => by
    subst hs
    obtain ⟨hi, hg⟩ := step_get l i h0 h1
    refine ⟨_, rfl, ?_⟩
    have hlen := fold_len (l.take i.toNat) []
    have hlt : (l.take i.toNat).length ≤ l.length := List.length_take_le' _ _
    simp only [List.length_nil, Nat.zero_add] at hlen
    rw [show (i + 1).toNat = i.toNat + 1 by omega, take_fold_succ l i.toNat hi]
    generalize (l.take i.toNat).foldl addE [] = a at hlen ⊢
    have hE := specHasE a (by omega) l[i.toNat].f2 l[i.toNat].f3.f0 l[i.toNat].f3.f1 l[i.toNat].f4.f0 l[i.toNat].f4.f1
    have hw : wrap64 (i + 1) = i + 1 := wrap_id (by omega) (by omega)
    unfold addE
    by_cases h : l[i.toNat].f0 = 1
    · rw [if_pos h]
      refine Leads.trans (Leads.step (h := fun k => (spec_l11Has.f k a l[i.toNat].f2 l[i.toNat].f3.f0 l[i.toNat].f3.f1 l[i.toNat].f4.f0 l[i.toNat].f4.f1).bind fun t => if t = true then spec_ExprList.l0 k a (i + 1) l else if a.length < 3518437208883 then spec_ExprList.l0 k (a ++ [exprOf l[i.toNat]]) (i + 1) l else none) (fun k => ?_)) (Leads.trans (Leads.bind hE) (Leads.congr (fun k => ?_)))
      · simp only [spec_ExprList.l0, spec_l11Of.f]
        rw [if_pos h1, if_pos h0, hg, if_pos h, hw]
        rfl
      · unfold hasE
        cases (a.any fun x => sameE x l[i.toNat].f2 l[i.toNat].f3.f0 l[i.toNat].f3.f1 l[i.toNat].f4.f0 l[i.toNat].f4.f1)
        · simp only [Bool.false_eq_true, if_false]
          rw [if_pos (by omega)]
        · rw [if_pos rfl, if_pos rfl]
    · rw [if_neg h]
      refine Leads.step (fun k => ?_)
      simp only [spec_ExprList.l0]
      rw [if_pos h1, if_pos h0, hg, if_neg h, hw]) [] rfl
  subst hs
  refine hL _ (ev_const 1 (fun k => ?_))
  simp only [spec_ExprList.l0]
  rw [if_neg (by omega), show ((l.length : Nat) : Int).toNat = l.length by omega, List.take_length]
  rfl
theorem implList (l : List Step) (hl : l.length ≤ 60) : Ev (fun k => impl_ExprList.l0 k [] l (l.length : Int) 0) (exprsOf l) := by
  obtain ⟨s, hs, hL⟩ := leads_to (g := fun k i (s : List S45) => impl_ExprList.l0 k s l (l.length : Int) i) (n := l.length) (by omega) (fun i s => s = (l.take i.toNat).foldl addE []) (fun i s h0 h1 hs => by
    subst hs
    obtain ⟨hi, hg⟩ := step_get l i h0 h1
    refine ⟨_, rfl, ?_⟩
    have hlen := fold_len (l.take i.toNat) []
    have hlt : (l.take i.toNat).length ≤ l.length := List.length_take_le' _ _
    simp only [List.length_nil, Nat.zero_add] at hlen
    rw [show (i + 1).toNat = i.toNat + 1 by omega, take_fold_succ l i.toNat hi]
    generalize (l.take i.toNat).foldl addE [] = a at hlen ⊢
    have hE := implHasE a (by omega) l[i.toNat].f2 l[i.toNat].f3.f0 l[i.toNat].f3.f1 l[i.toNat].f4.f0 l[i.toNat].f4.f1
    have hw : wrap64 (i + 1) = i + 1 := wrap_id (by omega) (by omega)
    unfold addE
    by_cases h : l[i.toNat].f0 = 1
    · rw [if_pos h]
      refine Leads.trans (Leads.step (h := fun k => (impl_Expr_80.f k a l[i.toNat].f2 l[i.toNat].f3.f0 l[i.toNat].f3.f1 l[i.toNat].f4.f0 l[i.toNat].f4.f1).bind fun t => if t = true then impl_ExprList.l0 k a l (l.length : Int) (i + 1) else if a.length < 3518437208883 then impl_ExprList.l0 k (a ++ [exprOf l[i.toNat]]) l (l.length : Int) (i + 1) else none) (fun k => ?_)) (Leads.trans (Leads.bind hE) (Leads.congr (fun k => ?_)))
      · simp only [impl_ExprList.l0, impl_Step_expr.f]
        rw [if_pos h1, if_pos h0, if_pos h1, hg, hw, h]
        rfl
      · unfold hasE
        cases (a.any fun x => sameE x l[i.toNat].f2 l[i.toNat].f3.f0 l[i.toNat].f3.f1 l[i.toNat].f4.f0 l[i.toNat].f4.f1)
        · simp only [Bool.false_eq_true, if_false]
          rw [if_pos (by omega)]
        · rw [if_pos rfl, if_pos rfl]
    · rw [if_neg h]
      refine Leads.step (fun k => ?_)
      simp only [impl_ExprList.l0, impl_Step_expr.f]
      rw [if_pos h1, if_pos h0, if_pos h1, hg, hw, beq_eq_false_iff_ne.mpr h]
      rfl) [] rfl
  subst hs
  refine hL _ (ev_const 1 (fun k => ?_))
  simp only [impl_ExprList.l0]
  rw [if_neg (by omega), show ((l.length : Nat) : Int).toNat = l.length by omega, List.take_length]
  rfl
theorem specExprList (p : List Step) (hl : p.length ≤ big) (hn : ∀ s ∈ p, s.f5.length ≤ big) : Ev (fun k => spec_ExprList.f k p) (if progB p then exprsOf p else []) := by
  unfold spec_ExprList.f
  simp only [Option.bind_some]
  refine Ev.bind (specOk p (big_len hl) (big_next hn)) ?_
  cases h : progB p
  · exact ev_const 1 (fun k => by rw [if_neg (by decide), if_neg (by decide)])
  · exact Ev.congr (fun k => by rw [if_pos rfl]) (by rw [if_pos rfl]; exact specList p (good_of p h).le)
theorem implExprList (p : List Step) (hl : p.length ≤ big) : Ev (fun k => impl_ExprList.f k p) (if progB p then exprsOf p else []) := by
  unfold impl_ExprList.f
  rw [implOk p (big_len hl)]
  simp only [Option.bind_some]
  cases h : progB p
  · exact ev_const 1 (fun k => by rw [if_neg (by decide), if_neg (by decide)])
  · exact Ev.congr (fun k => by rw [if_pos rfl]) (by rw [if_pos rfl]; exact implList p (good_of p h).le)
theorem bothExprList (p : List Step) (hl : p.length ≤ big) (hn : ∀ s ∈ p, s.f5.length ≤ big) : ∃ g : List S45, g.length ≤ 1048576 ∧ Ev (fun k => spec_ExprList.f k p) g ∧ Ev (fun k => impl_ExprList.f k p) g :=
  ⟨_, by
    unfold big at hl
    have := fold_len p []
    split
    · unfold exprsOf; simp at this; omega
    · simp, specExprList p hl hn, implExprList p hl⟩
end Go.Proofs.Ytkehjekbglajhaa.Pure
