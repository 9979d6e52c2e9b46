/- ExprComp: both say the same at every program and reckoning. -/
import Derived.Test.YtkehjekbglajhaaPureComp
import Derived.Test.YtkehjekbglajhaaPureFlowReach
import Derived.Test.YtkehjekbglajhaaF18
namespace Go.Proofs.Ytkehjekbglajhaa.Pure
set_option linter.unusedVariables false
open Go.RowKit Go.Proofs.Ytkehjekbglajhaa.F Go.Proofs.YtkehjekbglajhaaW.PrintWords Go.Proofs.YtkehjekbglajhaaW.PrintLast

theorem implExprComp (p : List Step) (hl : p.length ≤ big) (e0 e1 e2 e3 e4 : Int) : impl_ExprComp.f p e0 e1 e2 e3 e4 = some (if progB p && exprB e0 e1 e2 e3 e4 then compL p e0 e1 e2 e3 e4 else []) := by
  unfold impl_ExprComp.f
  rw [implOk p (big_len hl)]
  simp only [Option.bind_some, implExpr, implComp p hl]
  cases progB p <;> cases exprB e0 e1 e2 e3 e4 <;> simp
theorem specExprComp (p : List Step) (hl : p.length ≤ big) (hn : ∀ s ∈ p, s.f5.length ≤ big) (e0 e1 e2 e3 e4 : Int) : Ev (fun k => spec_ExprComp.f k p e0 e1 e2 e3 e4) (if progB p && exprB e0 e1 e2 e3 e4 then compL p e0 e1 e2 e3 e4 else []) := by
  unfold spec_ExprComp.f
  simp only [Option.bind_some, specExpr]
  refine Ev.bind (specOk p (big_len hl) (big_next hn)) ?_
  cases progB p
  · refine ev_const 1 (fun k => ?_)
    rw [if_neg (by decide)]
    simp [spec_ExprComp.j0]
  · cases exprB e0 e1 e2 e3 e4
    · refine ev_const 1 (fun k => ?_)
      rw [if_pos rfl]
      simp [spec_ExprComp.j0]
    · refine Ev.congr (f := fun k => spec_ExprComp.j0 k [] (!true) p e0 e1 e2 e3 e4) (fun k => by rw [if_pos rfl]) (Ev.step (f := fun k => spec_ExprComp.l0 k [] 0 p e0 e1 e2 e3 e4) (fun k => ?_) (by simpa using specComp p hl e0 e1 e2 e3 e4))
      simp [spec_ExprComp.j0]
theorem bothExprComp (p : List Step) (x1a x1b x1c x1d x1e : Int) (hl : p.length ≤ big) (hn : ∀ s ∈ p, s.f5.length ≤ big) : ∃ g : List Bool, g.length ≤ 1152921504606846976 ∧ Ev (fun k => spec_ExprComp.f k p x1a x1b x1c x1d x1e) g ∧ Ev (fun k => impl_ExprComp.f p x1a x1b x1c x1d x1e) g :=
  ⟨_, by unfold big at hl; split <;> simp [compL]; omega, specExprComp p hl hn _ _ _ _ _, ev_const 0 (fun _ => implExprComp p hl _ _ _ _ _)⟩
end Go.Proofs.Ytkehjekbglajhaa.Pure
