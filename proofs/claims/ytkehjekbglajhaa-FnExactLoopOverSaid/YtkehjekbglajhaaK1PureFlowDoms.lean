/- FlowDoms: both say the same at every program. -/
import Derived.Test.YtkehjekbglajhaaK1PureDomsBoth
import Derived.Test.YtkehjekbglajhaaK1PureFlowPreds
import Derived.Test.YtkehjekbglajhaaK1F21
namespace Go.Proofs.Ytkehjekbglajhaa.Pure
set_option linter.unusedVariables false
open Go.RowKit Go.Proofs.Ytkehjekbglajhaa.F Go.Proofs.YtkehjekbglajhaaW.PrintWords Go.Proofs.YtkehjekbglajhaaW.PrintLast

theorem implFlowDoms (p : List Step) (h : progB p = true) : ∃ D, IsDom p D ∧ Ev (fun k => impl_FlowDoms.f k p) D := by
  obtain ⟨D, hD, hE⟩ := implDoms p h
  refine ⟨D, hD, ?_⟩
  unfold impl_FlowDoms.f
  refine Ev.bind (ev_const 0 (fun n => by rw [implOk p (lens_of p h).1, h])) ?_
  exact Ev.congr (fun k => by rw [if_pos rfl]) (Ev.bind hE (ev_const 0 (fun _ => rfl)))
theorem implFlowDomsNo (p : List Step) (hl : p.length < 4611686018427387904) (h : progB p = false) : Ev (fun k => impl_FlowDoms.f k p) [] := by
  unfold impl_FlowDoms.f
  refine Ev.bind (ev_const 0 (fun n => by rw [implOk p hl, h])) (ev_const 0 (fun n => ?_))
  rw [if_neg (by decide)]
theorem specFlowDomsNo (p : List Step) (hl : p.length < 4611686018427387904) (hn : ∀ s ∈ p, s.f5.length ≤ 9223372036854775807) (h : progB p = false) : Ev (fun k => spec_FlowDoms.f k p) [] := by
  unfold spec_FlowDoms.f
  have hok := specOk p hl hn
  rw [h] at hok
  simp only [Option.bind_some]
  refine Ev.bind hok (ev_const 1 (fun n => ?_))
  rw [if_neg (by decide)]
theorem bothFlowDoms (p : List Step) (hl : p.length ≤ big) (hn : ∀ s ∈ p, s.f5.length ≤ big) : ∃ g : List (List Bool), (g.length ≤ 1048576 ∧ ∀ x ∈ g, x.length ≤ 1048576) ∧ Ev (fun k => spec_FlowDoms.f k p) g ∧ Ev (fun k => impl_FlowDoms.f k p) g := by
  cases h : progB p with
  | true =>
    obtain ⟨D, hD, hE⟩ := implFlowDoms p h
    obtain ⟨D', hD', hE'⟩ := specDoms p h
    obtain rfl := hD.unique hD'
    have hle := (good_of p h).le
    refine ⟨D, ⟨by rw [hD.len]; omega, fun x hx => ?_⟩, hE', hE⟩
    obtain ⟨i, hi, rfl⟩ := List.getElem_of_mem hx
    have := hD.row i (by rw [← hD.len]; exact hi)
    rw [List.getD_eq_getElem?_getD, List.getElem?_eq_getElem hi] at this
    simp at this
    omega
  | false => exact ⟨[], ⟨by simp, by simp⟩, specFlowDomsNo p (big_len hl) (big_next hn) h, implFlowDomsNo p (big_len hl) h⟩
end Go.Proofs.Ytkehjekbglajhaa.Pure
