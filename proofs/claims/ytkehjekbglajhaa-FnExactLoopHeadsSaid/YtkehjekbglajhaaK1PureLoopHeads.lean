/- LoopHeads: both say the same at every program. -/
import Derived.Test.YtkehjekbglajhaaK1PureHeads
import Derived.Test.YtkehjekbglajhaaK1PureFlowDoms
import Derived.Test.YtkehjekbglajhaaK1F27
namespace Go.Proofs.Ytkehjekbglajhaa.Pure
set_option linter.unusedVariables false
open Go.RowKit Go.Proofs.Ytkehjekbglajhaa.F Go.Proofs.YtkehjekbglajhaaW.PrintWords Go.Proofs.YtkehjekbglajhaaW.PrintLast

theorem implLoopHeads (p : List Step) (h : progB p = true) (R : List Bool) (hR : IsRch p R) : ∃ D, IsDom p D ∧ Ev (fun k => impl_LoopHeads.f k p) (headsL p R D) := by
  obtain ⟨D, hD, hE⟩ := implHeads p h R hR
  refine ⟨D, hD, ?_⟩
  unfold impl_LoopHeads.f
  refine Ev.bind (ev_const 0 (fun n => by rw [implOk p (lens_of p h).1, h])) ?_
  exact Ev.congr (fun k => by rw [if_pos rfl]) (Ev.bind hE (ev_const 0 (fun _ => rfl)))
theorem implLoopHeadsNo (p : List Step) (hl : p.length < 4611686018427387904) (h : progB p = false) : Ev (fun k => impl_LoopHeads.f k p) [] := by
  unfold impl_LoopHeads.f
  refine Ev.bind (ev_const 0 (fun n => by rw [implOk p hl, h])) (ev_const 0 (fun n => ?_))
  rw [if_neg (by decide)]
theorem specLoopHeads (p : List Step) (h : progB p = true) (R : List Bool) (hR : IsRch p R) : ∃ D, IsDom p D ∧ Ev (fun k => spec_LoopHeads.f k p) (headsL p R D) := by
  obtain ⟨D, hD, hE⟩ := specDoms p h
  refine ⟨D, hD, ?_⟩
  unfold spec_LoopHeads.f
  exact Ev.bind hE (Ev.bind (specPreds p h R hR) (specHeads p R D hD.len hD.row (good_of p h).le))
theorem specLoopHeadsNo (p : List Step) (hl : p.length < 4611686018427387904) (hn : ∀ s ∈ p, s.f5.length ≤ 9223372036854775807) (h : progB p = false) : Ev (fun k => spec_LoopHeads.f k p) [] := by
  unfold spec_LoopHeads.f
  refine Ev.bind (specFlowDomsNo p hl hn h) (Ev.bind (specFlowPredsNo p hl hn h) (ev_const 1 (fun k => ?_)))
  simp [spec_LoopHeads.l0]
theorem bothLoopHeads (p : List Step) (hl : p.length ≤ big) (hn : ∀ s ∈ p, s.f5.length ≤ big) : ∃ g : List Bool, g.length ≤ 1152921504606846976 ∧ Ev (fun k => spec_LoopHeads.f k p) g ∧ Ev (fun k => impl_LoopHeads.f k p) g := by
  cases h : progB p with
  | true =>
    obtain ⟨R, hR, _⟩ := implReach p h
    obtain ⟨D, hD, hE⟩ := implLoopHeads p h R hR
    obtain ⟨D', hD', hE'⟩ := specLoopHeads p h R hR
    obtain rfl := hD.unique hD'
    exact ⟨_, by unfold big at hl; simp [headsL]; omega, hE', hE⟩
  | false => exact ⟨[], by simp, specLoopHeadsNo p (big_len hl) (big_next hn) h, implLoopHeadsNo p (big_len hl) h⟩
end Go.Proofs.Ytkehjekbglajhaa.Pure
