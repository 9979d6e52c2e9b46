/- What stands on each way to a step: the table that the reference and the program come to is the same, and it says just that. -/
import Derived.Test.YtkehjekbglajhaaK1PurePreds
namespace Go.Proofs.Ytkehjekbglajhaa.Pure
set_option linter.unusedVariables false
open Go.RowKit Go.Proofs.Ytkehjekbglajhaa.F Go.Proofs.YtkehjekbglajhaaW.PrintWords Go.Proofs.YtkehjekbglajhaaW.PrintLast

/-- A way from the first step leads here that does not come to k. -/
inductive Av (l : List Step) (k : Nat) : Nat → Prop
  | zero : 0 ≠ k → Av l k 0
  | step {i j : Nat} : Av l k i → (j : Int) ∈ nx l i → j ≠ k → Av l k j
/-- k stands on each way to i. -/
def Dom (l : List Step) (i k : Nat) : Prop := Rch l i ∧ ¬ Av l k i
theorem Av.rch {l : List Step} {k i : Nat} (h : Av l k i) : Rch l i := by
  induction h with
  | zero _ => exact .zero
  | step _ hx _ ih => exact .step ih hx
theorem rch_or {l : List Step} {i : Nat} (h : Rch l i) (k : Nat) : Av l k i ∨ Rch l k := by
  induction h with
  | zero => by_cases e : 0 = k
            · subst e; exact .inr .zero
            · exact .inl (.zero e)
  | @step i j hi hx ih =>
    rcases ih with ih | ih
    · by_cases e : j = k
      · subst e; exact .inr (.step hi hx)
      · exact .inl (.step ih hx e)
    · exact .inr ih
theorem Dom.rch {l : List Step} {i k : Nat} (h : Dom l i k) : Rch l k := (rch_or h.1 k).resolve_left h.2
theorem Rch.lt {l : List Step} (g : Good l) {i : Nat} (h : Rch l i) : i < l.length := by
  cases h with
  | zero => exact g.pos
  | step _ hx => have := g.nxt _ _ hx; omega
/-- An element of a table. -/
def at2 (M : List (List Bool)) (i k : Nat) : Bool := (M.getD i []).getD k false
/-- The table says of each step what stands on each way to it. -/
structure IsDom (l : List Step) (D : List (List Bool)) : Prop where
  len : D.length = l.length
  row : ∀ i, i < l.length → (D.getD i []).length = l.length
  iff : ∀ i k, i < l.length → k < l.length → (at2 D i k = true ↔ Dom l i k)
theorem IsDom.unique {l : List Step} {D D' : List (List Bool)} (h : IsDom l D) (h' : IsDom l D') : D = D' := by
  apply List.ext_getElem?
  intro i
  by_cases hi : i < l.length
  · have e1 : D[i]? = some (D.getD i []) := by rw [List.getD_eq_getElem?_getD, List.getElem?_eq_getElem (by rw [h.len]; exact hi)]; rfl
    have e2 : D'[i]? = some (D'.getD i []) := by rw [List.getD_eq_getElem?_getD, List.getElem?_eq_getElem (by rw [h'.len]; exact hi)]; rfl
    rw [e1, e2]
    congr 1
    apply List.ext_getElem?
    intro k
    have l1 := h.row i hi
    have l2 := h'.row i hi
    by_cases hk : k < l.length
    · have e3 : (D.getD i [])[k]? = some (at2 D i k) := by unfold at2; rw [List.getD_eq_getElem?_getD (l := D.getD i []), List.getElem?_eq_getElem (by omega)]; rfl
      have e4 : (D'.getD i [])[k]? = some (at2 D' i k) := by unfold at2; rw [List.getD_eq_getElem?_getD (l := D'.getD i []), List.getElem?_eq_getElem (by omega)]; rfl
      rw [e3, e4]
      congr 1
      rw [Bool.eq_iff_iff]
      exact (h.iff i k hi hk).trans (h'.iff i k hi hk).symm
    · rw [List.getElem?_eq_none (by omega), List.getElem?_eq_none (by omega)]
  · rw [List.getElem?_eq_none (by rw [h.len]; omega), List.getElem?_eq_none (by rw [h'.len]; omega)]

/-! ### one step, one sweep, all sweeps -/
/-- Is something wrong at this place? -/
def badAt (l : List Step) (R : List Bool) (M : List (List Bool)) (t s : Nat) : Bool := at2 M t s && (s != t && (pre l R l.length t).any fun u => !at2 M u.toNat s)
def setAt (M : List (List Bool)) (t s : Nat) : List (List Bool) := M.set t ((M.getD t []).set s false)
structure DInv (l : List Step) (M : List (List Bool)) : Prop where
  len : M.length = l.length
  row : ∀ i, i < l.length → (M.getD i []).length = l.length
  lo : ∀ i k, i < l.length → k < l.length → Dom l i k → at2 M i k = true
  hi : ∀ i k, at2 M i k = true → Rch l i ∧ (0 < i ∨ k = 0)
def cnt (M : List (List Bool)) : Nat := (M.map fun r => r.count true).sum
theorem getD_set {α : Type} (M : List α) (z : α) (t i : Nat) (x : α) (ht : t < M.length) : (M.set t x).getD i z = if i = t then x else M.getD i z := by
  rw [List.getD_eq_getElem?_getD, List.getElem?_set]
  by_cases e : t = i
  · subst e
    rw [if_pos rfl, if_pos ht, if_pos rfl]
    rfl
  · rw [if_neg e, if_neg (Ne.symm e), List.getD_eq_getElem?_getD]
theorem at2_set {l : List Step} {M : List (List Bool)} (h : DInv l M) {t s : Nat} (ht : t < l.length) (hs : s < l.length) (i k : Nat) : at2 (setAt M t s) i k = if i = t ∧ k = s then false else at2 M i k := by
  unfold at2 setAt
  rw [getD_set M [] t i _ (by rw [h.len]; exact ht)]
  by_cases e : i = t
  · subst e
    rw [if_pos rfl, getD_set _ _ _ _ _ (by rw [h.row i ht]; exact hs)]
    by_cases e2 : k = s
    · rw [if_pos e2, if_pos ⟨rfl, e2⟩]
    · rw [if_neg e2, if_neg (fun hh => e2 hh.2)]
  · rw [if_neg e, if_neg (fun hh => e hh.1)]
theorem sum_set_lt (L : List Nat) (t v : Nat) (ht : t < L.length) (hv : v < L.getD t 0) : (L.set t v).sum < L.sum := by
  induction L generalizing t with
  | nil => simp at ht
  | cons a L ih =>
    cases t with
    | zero => simp at hv ⊢; omega
    | succ t =>
      have := ih t (by simpa using ht) (by simpa using hv)
      simp only [List.set_cons_succ, List.sum_cons]
      omega
theorem count_set_false (r : List Bool) (s : Nat) (hs : s < r.length) (h : r.getD s false = true) : (r.set s false).count true < r.count true := by
  induction r generalizing s with
  | nil => simp at hs
  | cons a r ih =>
    cases s with
    | zero => simp at h; subst h; simp
    | succ s =>
      have := ih s (by simpa using hs) (by simpa using h)
      simp only [List.set_cons_succ, List.count_cons]
      omega
theorem cnt_set {l : List Step} {M : List (List Bool)} (h : DInv l M) {t s : Nat} (ht : t < l.length) (hs : s < l.length) (hb : at2 M t s = true) : cnt (setAt M t s) < cnt M := by
  unfold cnt setAt
  rw [List.map_set]
  refine sum_set_lt _ t _ (by rw [List.length_map, h.len]; exact ht) ?_
  have e : (M.map fun r => r.count true).getD t 0 = (M.getD t []).count true := by
    rw [List.getD_eq_getElem?_getD, List.getElem?_map, List.getD_eq_getElem?_getD]
    cases M[t]? <;> rfl
  rw [e]
  exact count_set_false _ s (by rw [h.row t ht]; exact hs) hb
theorem DInv.set {l : List Step} {R : List Bool} {M : List (List Bool)} (g : Good l) (hR : IsRch l R) (h : DInv l M) {t s : Nat} (ht : t < l.length) (hs : s < l.length) (hb : badAt l R M t s = true) : DInv l (setAt M t s) := by
  unfold badAt at hb
  simp only [Bool.and_eq_true, bne_iff_ne, ne_eq, List.any_eq_true, Bool.not_eq_true'] at hb
  obtain ⟨h1, h2, u, hu, h3⟩ := hb
  obtain ⟨u0, u1, u2, u3⟩ := mem_pre.1 hu
  refine ⟨by unfold setAt; rw [List.length_set]; exact h.len, fun i hi => ?_, fun i k hi hk hd => ?_, fun i k hi => ?_⟩
  · unfold setAt
    rw [getD_set M [] t i _ (by rw [h.len]; exact ht)]
    split
    · rw [List.length_set]; exact h.row t ht
    · exact h.row i hi
  · rw [at2_set h ht hs]
    by_cases e : i = t ∧ k = s
    · obtain ⟨rfl, rfl⟩ := e
      exfalso
      have hru : Rch l u.toNat := (hR.iff _).1 u2
      have hav : Av l k u.toNat := by
        by_cases ha : Av l k u.toNat
        · exact ha
        · have := h.lo u.toNat k (by omega) hk ⟨hru, ha⟩
          rw [this] at h3
          exact absurd h3 (by decide)
      exact hd.2 (.step hav u3 (fun e => h2 e.symm))
    · rw [if_neg e]
      exact h.lo i k hi hk hd
  · rw [at2_set h ht hs] at hi
    split at hi
    · exact absurd hi (by decide)
    · exact h.hi i k hi
/-- Where nothing is wrong any more the table says what stands on each way. -/
theorem DInv.done {l : List Step} {R : List Bool} {M : List (List Bool)} (g : Good l) (hR : IsRch l R) (h : DInv l M) (hb : ∀ (t s : Nat), 1 ≤ t → t < l.length → s < l.length → badAt l R M t s = false) : IsDom l M := by
  refine ⟨h.len, h.row, fun i k hi hk => ⟨fun ha => ⟨(h.hi i k ha).1, fun hav => ?_⟩, h.lo i k hi hk⟩⟩
  have key : ∀ i, Av l k i → i < l.length → at2 M i k = false := by
    intro i hav
    induction hav with
    | zero e =>
      intro _
      cases hc : at2 M 0 k with
      | false => rfl
      | true => rcases (h.hi 0 k hc).2 with h0 | h0
                · omega
                · omega
    | @step i j hai hx hne ih =>
      intro hj
      cases hc : at2 M j k with
      | false => rfl
      | true =>
        have hi' := Rch.lt g hai.rch
        have hii := ih hi'
        by_cases e : j = 0
        · rcases (h.hi j k hc).2 with h0 | h0
          · omega
          · omega
        · have hbj := hb j k (by omega) hj hk
          unfold badAt at hbj
          rw [hc, Bool.true_and] at hbj
          have hkj : (k != j) = true := by simp; exact fun e => hne e.symm
          rw [hkj, Bool.true_and] at hbj
          have hm : ((i : Nat) : Int) ∈ pre l R l.length j := mem_pre.2 ⟨by omega, by omega, by rw [show ((i : Int)).toNat = i by omega]; exact (hR.iff i).2 hai.rch, by simpa using hx⟩
          have := List.any_eq_false.1 hbj _ hm
          rw [show ((i : Int)).toNat = i by omega, hii] at this
          exact absurd this (by decide)
  rw [key i hav hi] at ha
  exact absurd ha (by decide)
/-- The loops over the table, in whatever words. -/
theorem domLoops {ρ : Type} {l : List Step} {R : List Bool} (g : Good l) (hR : IsRch l R) {g2 : Nat → List (List Bool) → Bool → Option ρ} {g3 : Nat → List (List Bool) → Bool → Int → Option ρ} {g4 : Nat → List (List Bool) → Bool → Int → Int → Option ρ} {fin : List (List Bool) → ρ}
    (e2 : ∀ k M c, g2 (k + 1) M c = if c = true then g3 k M false 1 else some (fin M))
    (e3 : ∀ k M c t, g3 (k + 1) M c t = if t < (l.length : Int) then g4 k M c t 0 else g2 k M c)
    (e4 : ∀ k M c (t : Int), 0 ≤ t → t < (l.length : Int) → g4 (k + 1) M c t (l.length : Int) = g3 k M c (t + 1))
    (e5 : ∀ M c (t s : Nat), DInv l M → t < l.length → s < l.length → Leads (fun k => g4 k M c (t : Int) (s : Int)) (fun k => if badAt l R M t s then g4 k (setAt M t s) true (t : Int) ((s : Int) + 1) else g4 k M c (t : Int) ((s : Int) + 1)))
    (M0 : List (List Bool)) (h0 : DInv l M0) : ∃ D, IsDom l D ∧ Ev (fun k => g2 k M0 true) (fin D) := by
  have sweep : ∀ M, DInv l M → ∃ M' c', DInv l M' ∧ ((c' = false ∧ M' = M ∧ ∀ (t s : Nat), 1 ≤ t → t < l.length → s < l.length → badAt l R M t s = false) ∨ (c' = true ∧ cnt M' < cnt M)) ∧ Leads (fun k => g3 k M false 1) (fun k => g2 k M' c') := by
    intro M hM
    have hpos := g.pos
    obtain ⟨⟨M', c'⟩, ⟨hI, hJ⟩, hL⟩ := leads_for (σ := List (List Bool) × Bool) (g := fun k i s => g3 k s.1 s.2 i) (n := l.length) (I := fun i s => DInv l s.1 ∧ ((s.2 = false ∧ s.1 = M ∧ ∀ (t s' : Nat), 1 ≤ t → (t : Int) < i → s' < l.length → badAt l R M t s' = false) ∨ (s.2 = true ∧ cnt s.1 < cnt M))) (fun i st hi0 hi1 ⟨hI, hJ⟩ => by
      obtain ⟨M1, c1⟩ := st
      have ei : ((i.toNat : Nat) : Int) = i := by omega
      obtain ⟨⟨M2, c2⟩, ⟨hI2, hJ2⟩, hL2⟩ := leads_to (σ := List (List Bool) × Bool) (g := fun k s st => g4 k st.1 st.2 i s) (n := l.length) (by omega) (fun s st => DInv l st.1 ∧ ((st.2 = false ∧ st.1 = M ∧ (∀ (t s' : Nat), 1 ≤ t → (t : Int) < i → s' < l.length → badAt l R M t s' = false) ∧ ∀ s' : Nat, (s' : Int) < s → badAt l R M i.toNat s' = false) ∨ (st.2 = true ∧ cnt st.1 < cnt M))) (fun s st hs0 hs1 ⟨hA, hB⟩ => by
        obtain ⟨M3, c3⟩ := st
        have es : ((s.toNat : Nat) : Int) = s := by omega
        have h5 := e5 M3 c3 i.toNat s.toNat hA (by omega) (by omega)
        rw [ei, es] at h5
        cases hbad : badAt l R M3 i.toNat s.toNat with
        | true =>
          rw [hbad] at h5
          refine ⟨(setAt M3 i.toNat s.toNat, true), ⟨hA.set g hR (by omega) (by omega) hbad, .inr ⟨rfl, ?_⟩⟩, by simpa using h5⟩
          have hc := cnt_set hA (t := i.toNat) (s := s.toNat) (by omega) (by omega) (by unfold badAt at hbad; simp only [Bool.and_eq_true] at hbad; exact hbad.1)
          rcases hB with ⟨_, h2, _⟩ | ⟨_, h2⟩
          · simp only at h2
            rw [← h2]
            exact hc
          · simp only at h2
            exact Nat.lt_trans hc h2
        | false =>
          rw [hbad] at h5
          refine ⟨(M3, c3), ⟨hA, ?_⟩, by simpa using h5⟩
          rcases hB with ⟨h1, h2, h3, h4⟩ | h2
          · refine .inl ⟨h1, h2, h3, fun s' hs' => ?_⟩
            simp only at h2
            by_cases e : s' = s.toNat
            · rw [e, ← h2]; exact hbad
            · exact h4 s' (by omega)
          · exact .inr h2) (M1, c1) ⟨hI, by
        rcases hJ with ⟨h1, h2, h3⟩ | h
        · exact .inl ⟨h1, h2, h3, fun s' hs' => absurd hs' (by omega)⟩
        · exact .inr h⟩
      refine ⟨(M2, c2), ⟨hI2, ?_⟩, Leads.trans (Leads.step (fun k => ?_)) (hL2.trans (Leads.step (fun k => e4 k M2 c2 i hi0 hi1)))⟩
      · rcases hJ2 with ⟨h1, h2, h3, h4⟩ | h
        · refine .inl ⟨h1, h2, fun t s' ht hti hs' => ?_⟩
          by_cases e : t = i.toNat
          · rw [e]; exact h4 s' (by omega)
          · exact h3 t s' ht (by omega) hs'
        · exact .inr h
      · rw [e3, if_pos hi1]) (l.length - 1) 1 (M, false) (by omega) (by omega) ⟨hM, .inl ⟨rfl, rfl, fun t s ht hti _ => absurd hti (by omega)⟩⟩
    refine ⟨M', c', hI, ?_, hL.trans (Leads.step (fun k => ?_))⟩
    · rcases hJ with ⟨h1, h2, h3⟩ | h
      · exact .inl ⟨h1, h2, fun t s ht hti hs => h3 t s ht (by omega) hs⟩
      · exact .inr h
    · rw [e3, if_neg (by omega)]
  have all : ∀ (m : Nat) M, cnt M ≤ m → DInv l M → ∃ D, IsDom l D ∧ Ev (fun k => g2 k M true) (fin D) := by
    intro m
    induction m with
    | zero =>
      intro M hm hM
      obtain ⟨M', c', hI, hJ, hL⟩ := sweep M hM
      rcases hJ with ⟨h1, h2, h3⟩ | ⟨_, h⟩
      · subst h1
        subst h2
        refine ⟨_, hM.done g hR h3, Ev.step (fun k => by rw [e2, if_pos rfl]) (hL _ (ev_const 1 (fun k => by rw [e2]; rfl)))⟩
      · omega
    | succ m ih =>
      intro M hm hM
      obtain ⟨M', c', hI, hJ, hL⟩ := sweep M hM
      rcases hJ with ⟨h1, h2, h3⟩ | ⟨h1, h⟩
      · subst h1
        subst h2
        refine ⟨_, hM.done g hR h3, Ev.step (fun k => by rw [e2, if_pos rfl]) (hL _ (ev_const 1 (fun k => by rw [e2]; rfl)))⟩
      · subst h1
        obtain ⟨D, hD, hE⟩ := ih M' (by omega) hI
        exact ⟨D, hD, Ev.step (fun k => by rw [e2, if_pos rfl]) (hL _ hE)⟩
  exact all _ M0 (Nat.le_refl _) h0
/-- The table as it begins. -/
def initM (R : List Bool) (n : Nat) : List (List Bool) := (List.range n).map fun t => (List.range n).map fun s : Nat => R.getD t false && (R.getD s false && (decide (0 < t) || s == 0))
theorem T_getD {R : List Bool} {j : Nat} : R.getD j false = true ↔ T R j := by
  unfold T
  rw [List.getD_eq_getElem?_getD]
  cases R[j]? with
  | none => simp
  | some b => simp
theorem initM_inv {l : List Step} {R : List Bool} (g : Good l) (hR : IsRch l R) : DInv l (initM R l.length) := by
  have hrow : ∀ i, i < l.length → (initM R l.length).getD i [] = (List.range l.length).map fun s : Nat => R.getD i false && (R.getD s false && (decide (0 < i) || s == 0)) := by
    intro i hi
    unfold initM
    rw [List.getD_eq_getElem?_getD, List.getElem?_map, List.getElem?_range hi]
    rfl
  have hat : ∀ i k, i < l.length → k < l.length → at2 (initM R l.length) i k = (R.getD i false && (R.getD k false && (decide (0 < i) || k == 0))) := by
    intro i k hi hk
    unfold at2
    rw [hrow i hi, List.getD_eq_getElem?_getD, List.getElem?_map, List.getElem?_range hk]
    rfl
  refine ⟨by simp [initM], fun i hi => by rw [hrow i hi]; simp, fun i k hi hk hd => ?_, fun i k h => ?_⟩
  · rw [hat i k hi hk]
    have h1 := T_getD.2 ((hR.iff i).2 hd.1)
    have h2 := T_getD.2 ((hR.iff k).2 hd.rch)
    rw [h1, h2]
    by_cases e : i = 0
    · subst e
      have : k = 0 := by
        by_cases e0 : 0 = k
        · exact e0.symm
        · exact absurd (Av.zero e0) hd.2
      subst this
      rfl
    · simp; omega
  · have hi : i < l.length := by
      by_cases hi : i < l.length
      · exact hi
      · unfold at2 at h
        rw [List.getD_eq_getElem?_getD (l := initM R l.length), List.getElem?_eq_none (by simp [initM]; omega)] at h
        simp at h
    have hk : k < l.length := by
      by_cases hk : k < l.length
      · exact hk
      · unfold at2 at h
        rw [hrow i hi, List.getD_eq_getElem?_getD, List.getElem?_eq_none (by simp; omega)] at h
        simp at h
    rw [hat i k hi hk] at h
    simp only [Bool.and_eq_true, Bool.or_eq_true, decide_eq_true_eq, beq_iff_eq] at h
    exact ⟨(hR.iff i).1 (T_getD.1 h.1), h.2.2⟩
end Go.Proofs.Ytkehjekbglajhaa.Pure
