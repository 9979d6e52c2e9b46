/- FlowReach: both say the same at every program. -/
import Derived.Test.YtkehjekbglajhaaK1PureReach
import Derived.Test.YtkehjekbglajhaaK1PureArgs
import Derived.Test.YtkehjekbglajhaaK1F24
namespace Go.Proofs.Ytkehjekbglajhaa.Pure
open Go.RowKit Go.Proofs.Ytkehjekbglajhaa.F Go.Proofs.YtkehjekbglajhaaW.PrintWords Go.Proofs.YtkehjekbglajhaaW.PrintLast

theorem big_len {p : List Step} (hl : p.length ≤ big) : p.length < 4611686018427387904 := by unfold big at hl; omega
theorem big_next {p : List Step} (hn : ∀ s ∈ p, s.f5.length ≤ big) : ∀ s ∈ p, s.f5.length ≤ 9223372036854775807 := fun s hs => by have := hn s hs; unfold big at this; omega
theorem implFlowReach (p : List Step) (h : progB p = true) : ∃ R, IsRch p R ∧ Ev (fun k => impl_FlowReach.f k p) R := by
  obtain ⟨R, hR, hE⟩ := implReach p h
  refine ⟨R, hR, ?_⟩
  unfold impl_FlowReach.f
  refine Ev.bind (ev_const 0 (fun n => by rw [implOk p (lens_of p h).1, h])) ?_
  exact Ev.congr (fun k => by rw [if_pos rfl]) (Ev.bind hE (ev_const 0 (fun _ => rfl)))
theorem implFlowReachNo (p : List Step) (hl : p.length < 4611686018427387904) (h : progB p = false) : Ev (fun k => impl_FlowReach.f k p) [] := by
  unfold impl_FlowReach.f
  refine Ev.bind (ev_const 0 (fun n => by rw [implOk p hl, h])) (ev_const 0 (fun n => ?_))
  rw [if_neg (by decide)]
theorem specFlowReachNo (p : List Step) (hl : p.length < 4611686018427387904) (hn : ∀ s ∈ p, s.f5.length ≤ 9223372036854775807) (h : progB p = false) : Ev (fun k => spec_FlowReach.f k p) [] := by
  unfold spec_FlowReach.f
  have hok := specOk p hl hn
  rw [h] at hok
  refine Ev.bind hok (ev_const 1 (fun n => ?_))
  rw [if_neg (by decide)]
  try rfl
theorem bothFlowReach (p : List Step) (hl : p.length ≤ big) (hn : ∀ s ∈ p, s.f5.length ≤ big) : ∃ g : List Bool, g.length ≤ 1152921504606846976 ∧ Ev (fun k => spec_FlowReach.f k p) g ∧ Ev (fun k => impl_FlowReach.f k p) g := by
  cases h : progB p with
  | true =>
    obtain ⟨R, hR, hE⟩ := implFlowReach p h
    obtain ⟨R', hR', hE'⟩ := specReach p h
    obtain rfl := hR.unique hR'
    exact ⟨R, by rw [hR.len]; unfold big at hl; omega, hE', hE⟩
  | false => exact ⟨[], by simp, specFlowReachNo p (big_len hl) (big_next hn) h, implFlowReachNo p (big_len hl) h⟩
end Go.Proofs.Ytkehjekbglajhaa.Pure
