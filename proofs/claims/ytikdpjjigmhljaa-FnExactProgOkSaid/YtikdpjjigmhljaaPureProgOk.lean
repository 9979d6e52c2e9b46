/- ProgOk of the program and ProgOk of the reference return the same at every program; the argument stays as it was. No condition. -/
import Derived.Test.YtikdpjjigmhljaaPureArgs
import Derived.Test.YtikdpjjigmhljaaF10
namespace Go.Proofs.Ytikdpjjigmhljaa.Pure
open Go.RowKit Go.Proofs.Ytikdpjjigmhljaa.F Go.Proofs.YtikdpjjigmhljaaW.PrintWords Go.Proofs.YtikdpjjigmhljaaW.PrintLast

theorem exactProgOk (l : List LStep) (hl : l.length ≤ 9223372036854775807) (hn : ∀ s ∈ l, s.f5.length ≤ 9223372036854775807) : Ev (fun k => laws_FnExactProgOk.f k l) true := by
  obtain ⟨r, hr, hr'⟩ := szOk l hl hn
  unfold laws_FnExactProgOk.f
  refine Ev.bind hr ?_
  by_cases h : r < 0
  · exact ev_const 0 (fun k => by rw [if_pos h])
  · obtain ⟨hb, hnb⟩ := hr' (by omega)
    have hbm : (l.map conv).length ≤ big := by simpa using hb
    have hnm : ∀ s ∈ l.map conv, s.f5.length ≤ big := by
      intro s hs
      obtain ⟨s', hs', rfl⟩ := List.mem_map.1 hs
      exact hnb s' hs'
    have hp := toProgEv l hb hnb
    have hs := specOk (l.map conv) (by unfold big at hbm; omega) (fun s hs => by have := hnm s hs; unfold big at this; omega)
    have hi : Ev (fun k => impl_ProgOk.f k (l.map conv)) (progB (l.map conv)) := ev_const 3 (fun k => implOk k _ (by unfold big at hbm; omega))
    have he := eqProgEv (l.map conv) hbm hnm
    refine Ev.congr (fun k => by rw [if_neg h]) ?_
    refine Ev.bind hp (Ev.bind hs (Ev.bind hp (Ev.bind hi ?_)))
    refine Ev.congr (fun k => by rw [if_neg (by simp)]) ?_
    exact Ev.bind hp (Ev.bind he (ev_const 0 (fun k => rfl)))
theorem FnExactProgOk_walk (A : Option Addr) (c : Nat) (l : List LStep) (w : World) (hr : Kd.C k69 w A l.length l) (hc : l.length ≤ c) :
    Calls Try.prog 7 #[.agg #[.slice A l.length c]] w fun e w' => e = .returned (.bool true) ∧ Below w.heap.size w w' := by
  obtain ⟨k, hk⟩ := (exactProgOk l (args_small hr).1 (args_small hr).2).rounds
  exact laws_FnExactProgOk.calls k A c l true w hr hc hk
end Go.Proofs.Ytikdpjjigmhljaa.Pure
