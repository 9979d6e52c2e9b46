/- FlowIsTidy of the program and FlowIsTidy of the reference return the same at every program; the argument stays as it was. No condition. -/
import Derived.Test.YtkehjekbglajhaaPureArgs
import Derived.Test.YtkehjekbglajhaaPureTidy
import Derived.Test.YtkehjekbglajhaaF22
namespace Go.Proofs.Ytkehjekbglajhaa.Pure
open Go.RowKit Go.Proofs.Ytkehjekbglajhaa.F Go.Proofs.YtkehjekbglajhaaW.PrintWords Go.Proofs.YtkehjekbglajhaaW.PrintLast

theorem exactFlowIsTidy (l : List LStep) (hl : l.length ≤ 9223372036854775807) (hn : ∀ s ∈ l, s.f5.length ≤ 9223372036854775807) : Ev (fun k => laws_FnExactFlowIsTidy.f k l) true := by
  obtain ⟨r, hr, hr'⟩ := szOk l hl hn
  unfold laws_FnExactFlowIsTidy.f
  refine Ev.bind hr ?_
  by_cases h : r < 0
  · exact ev_const 0 (fun k => by rw [if_pos h])
  · obtain ⟨hb, hnb⟩ := hr' (by omega)
    have hbm : (l.map conv).length ≤ big := by simpa using hb
    have hnm : ∀ s ∈ l.map conv, s.f5.length ≤ big := by
      intro s hs
      obtain ⟨s', hs', rfl⟩ := List.mem_map.1 hs
      exact hnb s' hs'
    have hp := toProgEv l hb hnb
    obtain ⟨b, hs, hi⟩ := bothTidy (l.map conv) (by unfold big at hbm; omega) (fun s hs => by have := hnm s hs; unfold big at this; omega)
    have he := eqProgEv (l.map conv) hbm hnm
    refine Ev.congr (fun k => by rw [if_neg h]) ?_
    refine Ev.bind hp (Ev.bind hs (Ev.bind hp (Ev.bind hi ?_)))
    refine Ev.congr (fun k => by rw [if_neg (by simp)]) ?_
    exact Ev.bind hp (Ev.bind he (ev_const 0 (fun k => rfl)))
theorem FnExactFlowIsTidy_walk (A : Option Addr) (c : Nat) (l : List LStep) (w : World) (hr : Kd.C k94 w A l.length l) (hc : l.length ≤ c) :
    Calls Try.prog 3 #[.agg #[.slice A l.length c]] w fun e w' => e = .returned (.bool true) ∧ Below w.heap.size w w' := by
  obtain ⟨k, hk⟩ := (exactFlowIsTidy l (args_small hr).1 (args_small hr).2).rounds
  exact laws_FnExactFlowIsTidy.calls k A c l true w hr hc hk
end Go.Proofs.Ytkehjekbglajhaa.Pure
