/- How loops come to their ends: plain facts on functions that count rounds. -/
import Derived.Test.YtkehjekbglajhaaK1PureBase
namespace Go.Proofs.Ytkehjekbglajhaa.Pure
open Go.RowKit Go.Proofs.Ytkehjekbglajhaa.F Go.Proofs.YtkehjekbglajhaaW.PrintWords Go.Proofs.YtkehjekbglajhaaW.PrintLast

/-- What h comes to g comes to. -/
def Leads {ρ : Type} (g h : Nat → Option ρ) : Prop := ∀ r, Ev h r → Ev g r
section
variable {ρ σ : Type}
theorem Leads.refl (g : Nat → Option ρ) : Leads g g := fun _ h => h
theorem Leads.trans {g h f : Nat → Option ρ} (a : Leads g h) (b : Leads h f) : Leads g f := fun r hr => a r (b r hr)
theorem Leads.step {g h : Nat → Option ρ} (e : ∀ k, g (k + 1) = h k) : Leads g h := fun _ hr => Ev.step e hr
theorem Leads.congr {g h : Nat → Option ρ} (e : ∀ k, g k = h k) : Leads g h := fun _ hr => Ev.congr e hr
theorem Leads.bind {α : Type} {g : Nat → Option α} {a : α} {f : Nat → α → Option ρ} (h : Ev g a) : Leads (fun k => (g k).bind (f k)) (fun k => f k a) := fun _ hr => Ev.bind h hr
/-- From i to n, the state told by I. -/
theorem leads_for {g : Nat → Int → σ → Option ρ} {n : Int} {I : Int → σ → Prop}
    (step : ∀ i s, 0 ≤ i → i < n → I i s → ∃ s', I (i + 1) s' ∧ Leads (fun k => g k i s) (fun k => g k (i + 1) s')) :
    ∀ (d : Nat) (i : Int) (s : σ), 0 ≤ i → n - i = d → I i s → ∃ s', I n s' ∧ Leads (fun k => g k i s) (fun k => g k n s')
  | 0, i, s, h0, hd, hI => by
    obtain rfl : i = n := by omega
    exact ⟨s, hI, Leads.refl _⟩
  | d + 1, i, s, h0, hd, hI => by
    obtain ⟨s1, h1, l1⟩ := step i s h0 (by omega) hI
    obtain ⟨s2, h2, l2⟩ := leads_for step d (i + 1) s1 (by omega) (by omega) h1
    exact ⟨s2, h2, l1.trans l2⟩
/-- From 0 to n. -/
theorem leads_to {g : Nat → Int → σ → Option ρ} {n : Int} (hn : 0 ≤ n) (I : Int → σ → Prop)
    (step : ∀ i s, 0 ≤ i → i < n → I i s → ∃ s', I (i + 1) s' ∧ Leads (fun k => g k i s) (fun k => g k (i + 1) s')) (s : σ) (h : I 0 s) :
    ∃ s', I n s' ∧ Leads (fun k => g k 0 s) (fun k => g k n s') :=
  leads_for step n.toNat 0 s (by omega) (by omega) h
/-- A loop that may be left on the way: an answer with Q. -/
theorem ev_loop {g : Nat → σ → Option ρ} (I : σ → Prop) (m : σ → Nat) (Q : ρ → Prop)
    (step : ∀ s, I s → (∃ s', I s' ∧ m s' < m s ∧ Leads (fun k => g k s) (fun k => g k s')) ∨ ∃ r, Ev (fun k => g k s) r ∧ Q r) :
    ∀ s, I s → ∃ r, Ev (fun k => g k s) r ∧ Q r := by
  suffices H : ∀ (d : Nat) (s : σ), m s ≤ d → I s → ∃ r, Ev (fun k => g k s) r ∧ Q r from fun s hs => H (m s) s (Nat.le_refl _) hs
  intro d
  induction d with
  | zero =>
    intro s hd hs
    rcases step s hs with ⟨s', _, hm, _⟩ | h
    · omega
    · exact h
  | succ d ih =>
    intro s hd hs
    rcases step s hs with ⟨s', h', hm, l⟩ | h
    · obtain ⟨r, hr, hq⟩ := ih s' (by omega) h'
      exact ⟨r, l r hr, hq⟩
    · exact h
/-- The same, to the place where the loop ends. -/
theorem leads_loop {g : Nat → σ → Option ρ} {f : σ → Nat → Option ρ} (I : σ → Prop) (m : σ → Nat) (Q : σ → Prop)
    (step : ∀ s, I s → (∃ s', I s' ∧ m s' < m s ∧ Leads (fun k => g k s) (fun k => g k s')) ∨ (Q s ∧ Leads (fun k => g k s) (f s))) :
    ∀ s, I s → ∃ s', I s' ∧ Q s' ∧ Leads (fun k => g k s) (f s') := by
  suffices H : ∀ (d : Nat) (s : σ), m s ≤ d → I s → ∃ s', I s' ∧ Q s' ∧ Leads (fun k => g k s) (f s') from fun s hs => H (m s) s (Nat.le_refl _) hs
  intro d
  induction d with
  | zero =>
    intro s hd hs
    rcases step s hs with ⟨s', _, hm, _⟩ | h
    · omega
    · exact ⟨s, hs, h.1, h.2⟩
  | succ d ih =>
    intro s hd hs
    rcases step s hs with ⟨s', h', hm, l⟩ | h
    · obtain ⟨s2, h2, hq, l2⟩ := ih s' (by omega) h'
      exact ⟨s2, h2, hq, l.trans l2⟩
    · exact ⟨s, hs, h.1, h.2⟩
/-- A loop over i alone in which nothing comes up. -/
theorem ev_count {g : Nat → Int → Option ρ} {n : Int} {r : ρ} (hn : 0 ≤ n) (step : ∀ k i, 0 ≤ i → i < n → g (k + 1) i = g k (i + 1)) (done : ∀ k, g (k + 1) n = some r) : Ev (fun k => g k 0) r := by
  obtain ⟨_, _, l⟩ := leads_to (σ := Unit) (g := fun k i _ => g k i) hn (fun _ _ => True) (fun i s h0 h1 _ => ⟨(), trivial, Leads.step (fun k => step k i h0 h1)⟩) () trivial
  exact l r (ev_const 1 done)
/-- A list that is filled from left to right. -/
theorem leads_fill {α : Type} {g : Nat → List α → Int → Option ρ} {n : Nat} (f : Nat → α) (step : ∀ k l (i : Nat), l.length = n → i < n → g (k + 1) l i = g k (l.set i (f i)) (i + 1 : Int))
    (l : List α) (hl : l.length = n) : Leads (fun k => g k l 0) (fun k => g k ((List.range n).map f) n) := by
  obtain ⟨l', ⟨h1, h2⟩, ld⟩ := leads_to (σ := List α) (g := fun k i l => g k l i) (n := n) (by omega) (fun i l => l.length = n ∧ ∀ j : Nat, (j : Int) < i → l[j]? = some (f j))
    (fun i l h0 h1 h => ⟨l.set i.toNat (f i.toNat), ⟨by rw [List.length_set]; exact h.1, fun j hj => by
      by_cases e : j = i.toNat
      · subst e; rw [List.getElem?_set_self (by omega)]
      · rw [List.getElem?_set_ne (by omega)]; exact h.2 j (by omega)⟩, Leads.step (fun k => by
      have := step k l i.toNat h.1 (by omega)
      rwa [show ((i.toNat : Nat) : Int) = i by omega] at this)⟩) l ⟨hl, fun j hj => absurd hj (by omega)⟩
  obtain rfl : l' = (List.range n).map f := by
    apply List.ext_getElem?
    intro j
    by_cases hj : j < n
    · rw [h2 j (by omega)]; simp [hj]
    · rw [List.getElem?_eq_none (by omega), List.getElem?_eq_none (by simp; omega)]
  exact ld
theorem ev_fill {α : Type} {g : Nat → List α → Int → Option ρ} {n : Nat} (f : Nat → α) {r : ρ} (step : ∀ k l (i : Nat), l.length = n → i < n → g (k + 1) l i = g k (l.set i (f i)) (i + 1 : Int))
    (done : ∀ k, g (k + 1) ((List.range n).map f) n = some r) (l : List α) (hl : l.length = n) : Ev (fun k => g k l 0) r :=
  leads_fill f step l hl r (ev_const 1 done)
/-- A list that is filled from left to right, with a count that goes on. -/
theorem ev_mark {α : Type} {g : Nat → List α → Int → Int → Option ρ} {r : ρ} (l0 : List α) (f : Nat → α) (off : Nat → Int)
    (step : ∀ (l : List α) (i : Nat), l.length = l0.length → (hi : i < l0.length) → l[i]? = some l0[i] → Leads (fun k => g k l (off i) (i : Int)) (fun k => g k (l.set i (f i)) (off (i + 1)) ((i : Int) + 1)))
    (done : ∀ k, g (k + 1) ((List.range l0.length).map f) (off l0.length) (l0.length : Int) = some r) : Ev (fun k => g k l0 (off 0) 0) r := by
  obtain ⟨l', ⟨h1, h2, _⟩, ld⟩ := leads_to (σ := List α) (g := fun k i l => g k l (off i.toNat) i) (n := l0.length) (by omega) (fun i l => l.length = l0.length ∧ (∀ j : Nat, (j : Int) < i → l[j]? = some (f j)) ∧ ∀ j : Nat, i ≤ (j : Int) → l[j]? = l0[j]?)
    (fun i l h0 hn h => ⟨l.set i.toNat (f i.toNat), ⟨by rw [List.length_set]; exact h.1, fun j hj => by
      by_cases e : j = i.toNat
      · subst e; rw [List.getElem?_set_self (by omega)]
      · rw [List.getElem?_set_ne (by omega)]; exact h.2.1 j (by omega), fun j hj => by rw [List.getElem?_set_ne (by omega)]; exact h.2.2 j (by omega)⟩, by
      have := step l i.toNat h.1 (by omega) (by rw [h.2.2 i.toNat (by omega), List.getElem?_eq_getElem (by omega)])
      rwa [show ((i.toNat : Nat) : Int) = i by omega, show i.toNat + 1 = (i + 1).toNat by omega] at this⟩) l0 ⟨rfl, fun j hj => absurd hj (by omega), fun j _ => rfl⟩
  obtain rfl : l' = (List.range l0.length).map f := by
    apply List.ext_getElem?
    intro j
    by_cases hj : j < l0.length
    · rw [h2 j (by omega)]; simp [hj]
    · rw [List.getElem?_eq_none (by omega), List.getElem?_eq_none (by simp; omega)]
  exact ld r (ev_const 1 done)
/-- A loop with a count that goes on. -/
theorem ev_held {g : Nat → Int → Int → Option ρ} {r : ρ} (n : Nat) (off : Nat → Int)
    (step : ∀ (i : Nat), i < n → Leads (fun k => g k (off i) (i : Int)) (fun k => g k (off (i + 1)) ((i : Int) + 1)))
    (done : ∀ k, g (k + 1) (off n) (n : Int) = some r) : Ev (fun k => g k (off 0) 0) r := by
  obtain ⟨_, _, ld⟩ := leads_to (σ := Unit) (g := fun k i _ => g k (off i.toNat) i) (n := n) (by omega) (fun _ _ => True)
    (fun i _ h0 hn _ => ⟨(), trivial, by
      have := step i.toNat (by omega)
      rwa [show ((i.toNat : Nat) : Int) = i by omega, show i.toNat + 1 = (i + 1).toNat by omega] at this⟩) () trivial
  exact ld r (ev_const 1 done)
end
end Go.Proofs.Ytkehjekbglajhaa.Pure
