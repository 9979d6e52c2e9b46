/- FlowPreds: both say the same at every program. -/
import Derived.Test.YtkehjekbglajhaaK1PurePreds
import Derived.Test.YtkehjekbglajhaaK1PureFlowReach
import Derived.Test.YtkehjekbglajhaaK1F23
namespace Go.Proofs.Ytkehjekbglajhaa.Pure
open Go.RowKit Go.Proofs.Ytkehjekbglajhaa.F Go.Proofs.YtkehjekbglajhaaW.PrintWords Go.Proofs.YtkehjekbglajhaaW.PrintLast

theorem implFlowPreds (p : List Step) (h : progB p = true) (R : List Bool) (hR : IsRch p R) : Ev (fun k => impl_FlowPreds.f k p) (predRows p R) := by
  unfold impl_FlowPreds.f
  refine Ev.bind (ev_const 0 (fun n => by rw [implOk p (lens_of p h).1, h])) ?_
  exact Ev.congr (fun k => by rw [if_pos rfl]) (Ev.bind (implPreds p h R hR) (ev_const 0 (fun _ => rfl)))
theorem implFlowPredsNo (p : List Step) (hl : p.length < 4611686018427387904) (h : progB p = false) : Ev (fun k => impl_FlowPreds.f k p) [] := by
  unfold impl_FlowPreds.f
  refine Ev.bind (ev_const 0 (fun n => by rw [implOk p hl, h])) (ev_const 0 (fun n => ?_))
  rw [if_neg (by decide)]
theorem specFlowPredsNo (p : List Step) (hl : p.length < 4611686018427387904) (hn : ∀ s ∈ p, s.f5.length ≤ 9223372036854775807) (h : progB p = false) : Ev (fun k => spec_FlowPreds.f k p) [] := by
  unfold spec_FlowPreds.f
  have hok := specOk p hl hn
  rw [h] at hok
  simp only [Option.bind_some]
  refine Ev.bind hok (ev_const 1 (fun n => ?_))
  rw [if_neg (by decide)]
theorem bothFlowPreds (p : List Step) (hl : p.length ≤ big) (hn : ∀ s ∈ p, s.f5.length ≤ big) : ∃ g : List (List Int), (g.length ≤ 1048576 ∧ ∀ x ∈ g, x.length ≤ 1048576) ∧ Ev (fun k => spec_FlowPreds.f k p) g ∧ Ev (fun k => impl_FlowPreds.f k p) g := by
  cases h : progB p with
  | true =>
    obtain ⟨R, hR, _⟩ := implReach p h
    have hle := (good_of p h).le
    refine ⟨predRows p R, ⟨by rw [predRows_len]; omega, fun x hx => ?_⟩, specPreds p h R hR, implFlowPreds p h R hR⟩
    obtain ⟨j, _, rfl⟩ := List.mem_map.1 hx
    have := pre_len p R p.length j
    omega
  | false => exact ⟨[], ⟨by simp, by simp⟩, specFlowPredsNo p (big_len hl) (big_next hn) h, implFlowPredsNo p (big_len hl) h⟩
end Go.Proofs.Ytkehjekbglajhaa.Pure
