/- LoopOver: both say the same at every program. -/
import Derived.Test.YtkehjekbglajhaaK1PureOver
import Derived.Test.YtkehjekbglajhaaK1PureFlowDoms
import Derived.Test.YtkehjekbglajhaaK1F28
namespace Go.Proofs.Ytkehjekbglajhaa.Pure
set_option linter.unusedVariables false
open Go.RowKit Go.Proofs.Ytkehjekbglajhaa.F Go.Proofs.YtkehjekbglajhaaW.PrintWords Go.Proofs.YtkehjekbglajhaaW.PrintLast

theorem implLoopOver (p : List Step) (h : progB p = true) : ∃ D, IsDom p D ∧ Ev (fun k => impl_LoopOver.f k p) (overL D p.length) := by
  obtain ⟨D, hD, hE⟩ := implOver p h
  refine ⟨D, hD, ?_⟩
  unfold impl_LoopOver.f
  refine Ev.bind (ev_const 0 (fun n => by rw [implOk p (lens_of p h).1, h])) ?_
  exact Ev.congr (fun k => by rw [if_pos rfl]) (Ev.bind hE (ev_const 0 (fun _ => rfl)))
theorem implLoopOverNo (p : List Step) (hl : p.length < 4611686018427387904) (h : progB p = false) : Ev (fun k => impl_LoopOver.f k p) [] := by
  unfold impl_LoopOver.f
  refine Ev.bind (ev_const 0 (fun n => by rw [implOk p hl, h])) (ev_const 0 (fun n => ?_))
  rw [if_neg (by decide)]
theorem specLoopOver (p : List Step) (h : progB p = true) : ∃ D, IsDom p D ∧ Ev (fun k => spec_LoopOver.f k p) (overL D p.length) := by
  obtain ⟨D, hD, hE⟩ := specDoms p h
  refine ⟨D, hD, ?_⟩
  unfold spec_LoopOver.f
  exact Ev.bind hE (specOver p D hD.len hD.row (good_of p h).le)
theorem specLoopOverNo (p : List Step) (hl : p.length < 4611686018427387904) (hn : ∀ s ∈ p, s.f5.length ≤ 9223372036854775807) (h : progB p = false) : Ev (fun k => spec_LoopOver.f k p) [] := by
  unfold spec_LoopOver.f
  refine Ev.bind (specFlowDomsNo p hl hn h) (ev_const 1 (fun k => ?_))
  simp [spec_LoopOver.l0]
theorem bothLoopOver (p : List Step) (hl : p.length ≤ big) (hn : ∀ s ∈ p, s.f5.length ≤ big) : ∃ g : List Int, g.length ≤ 1152921504606846976 ∧ Ev (fun k => spec_LoopOver.f k p) g ∧ Ev (fun k => impl_LoopOver.f k p) g := by
  cases h : progB p with
  | true =>
    obtain ⟨D, hD, hE⟩ := implLoopOver p h
    obtain ⟨D', hD', hE'⟩ := specLoopOver p h
    obtain rfl := hD.unique hD'
    exact ⟨_, by unfold big at hl; simp [overL]; omega, hE', hE⟩
  | false => exact ⟨[], by simp, specLoopOverNo p (big_len hl) (big_next hn) h, implLoopOverNo p (big_len hl) h⟩
end Go.Proofs.Ytkehjekbglajhaa.Pure
