/- Plain facts on the functions ProgOk of the program and of the reference: both say of a list of steps whether it is a program in form. -/
import Derived.Test.YtkehjekbglajhaaK1F4
import Derived.Test.YtkehjekbglajhaaK1F5
namespace Go.Proofs.Ytkehjekbglajhaa.Pure
open Go.RowKit Go.Proofs.Ytkehjekbglajhaa.F Go.Proofs.YtkehjekbglajhaaW.PrintWords Go.Proofs.YtkehjekbglajhaaW.PrintLast

abbrev Step := S68
/-- What is told from some round on. -/
theorem ev_le {α : Type} {g f : Nat → Option α} {r : α} (K : Nat) (h : ∀ k, K ≤ k → g k = f k) (hf : Ev f r) : Ev g r := by
  obtain ⟨K', h'⟩ := hf
  exact ⟨max K K', fun k hk => (h k (Nat.le_trans (Nat.le_max_left _ _) hk)).trans (h' k (Nat.le_trans (Nat.le_max_right _ _) hk))⟩
theorem ev_succ {α : Type} {g f : Nat → Option α} {r : α} (h : ∀ k, g (k + 1) = f k) (hf : Ev f r) : Ev g r := Ev.step h hf
theorem ev_const {α : Type} {g : Nat → Option α} {r : α} (K : Nat) (h : ∀ k, g (k + K) = some r) : Ev g r :=
  ⟨K, fun k hk => by obtain ⟨m, rfl⟩ : ∃ m, k = m + K := ⟨k - K, by omega⟩; exact h m⟩
theorem wrap_id {x : Int} (h : -9223372036854775808 ≤ x) (h' : x ≤ 9223372036854775807) : wrap64 x = x := by
  unfold wrap64
  omega
theorem step_get (l : List Step) (i : Int) (h0 : 0 ≤ i) (h1 : i < (l.length : Int)) : ∃ h : i.toNat < l.length, rd_T68 l i = l[i.toNat] :=
  ⟨by omega, getD_getElem l _ i h0 (by omega)⟩
theorem int_get (l : List Int) (i : Int) (h0 : 0 ≤ i) (h1 : i < (l.length : Int)) : ∃ h : i.toNat < l.length, rd l i = l[i.toNat] :=
  ⟨by omega, getD_getElem l _ i h0 (by omega)⟩

theorem specIn (a b c : Int) : spec_l6In.f a b c = some (decide (b ≤ a) && decide (a ≤ c)) := by
  unfold spec_l6In.f
  by_cases h : b ≤ a
  · rw [if_pos h]; simp [h]
  · rw [if_neg h]; simp [h]
theorem specOpnd (v n : Int) : spec_l1Opnd.f v n = some (opndB v n) := by
  unfold spec_l1Opnd.f opndB
  by_cases h : v = -1
  · rw [if_pos h, if_pos h, specIn]; rfl
  · rw [if_neg h, if_neg h, specIn]
    simp only [Option.bind_some]
    cases hb : (decide (0 ≤ v) && decide (v ≤ 11)) <;> simp
    rw [Bool.eq_iff_iff]
    simp
/-- Is a step in form, in a program of n steps? -/
def stepB (s : Step) (n : Nat) : Bool :=
  kindB s.f0 && decide ((s.f5.length : Int) = nextsOf s.f0) && s.f5.all (fun x => decide (0 ≤ x) && decide (x < (n : Int))) && dstB s.f0 s.f1 && aB s.f0 s.f3.f0 s.f3.f1 && opB s.f0 s.f2 s.f4.f0 s.f4.f1
/-- Is it a program in form? -/
def progB (l : List Step) : Bool := decide (1 ≤ l.length) && decide (l.length ≤ 60) && l.all fun s => stepB s l.length

/-! ### the program's own way -/
theorem stepV_eq (s : Step) (n : Nat) (hn : n < 4611686018427387904) : stepV s.f0 s.f1 s.f2 s.f3.f0 s.f3.f1 s.f4.f0 s.f4.f1 s.f5 (n : Int) = stepB s n := by
  have hw : wrap64 ((n : Int) - 1) = (n : Int) - 1 := wrap_id (by omega) (by omega)
  have ha : (s.f5.any fun x => (!decide (0 ≤ x) || !decide (x ≤ wrap64 ((n : Int) - 1)))) = !(s.f5.all fun x => decide (0 ≤ x) && decide (x < (n : Int))) := by
    rw [List.not_all_eq_any_not]
    congr 1
    funext x
    rw [hw, Bool.eq_iff_iff]
    simp
    omega
  unfold stepV stepB outB
  rw [ha, Bool.not_not]
  rfl
theorem implStep (s : Step) (n : Nat) (hn : n < 4611686018427387904) : impl_Step_ok.f s.f0 s.f1 s.f2 s.f3.f0 s.f3.f1 s.f4.f0 s.f4.f1 s.f5 (n : Int) = some (stepB s n) := congrArg some (stepV_eq s n hn)
theorem implOk (l : List Step) (hl : l.length < 4611686018427387904) : impl_ProgOk.f l = some (progB l) := by
  unfold impl_ProgOk.f anyBad.f
  rw [in_of, anyO_eval _ (fun x => !stepB x l.length) l (fun x _ => by rw [implStep x l.length hl]; rfl)]
  unfold progB
  have e : (l.any fun x => !stepB x l.length) = !(l.all fun s => stepB s l.length) := List.not_all_eq_any_not.symm
  have e1 : decide (1 ≤ (l.length : Int)) = decide (1 ≤ l.length) := by rw [Bool.eq_iff_iff]; simp; omega
  have e2 : decide ((l.length : Int) ≤ 60) = decide (l.length ≤ 60) := by rw [Bool.eq_iff_iff]; simp; omega
  simp only [Option.bind_some, e, e1, e2]
  cases (decide (1 ≤ l.length) && decide (l.length ≤ 60)) <;> simp

/-! ### the reference's way -/
theorem opB_if (k o v n : Int) : opB k o v n = if k = 1 then (decide (1 ≤ o) && decide (o ≤ 4)) && opndB v n else decide (o = 0) && (decide (v = 0) && decide (n = 0)) := by
  unfold opB opIn
  by_cases h : k = 1
  · rw [if_pos h, h]; rfl
  · rw [if_neg h, beq_eq_false_iff_ne.mpr h]; rfl
theorem aB_if (k v n : Int) : aB k v n = if usesAB k then opndB v n else decide (v = 0) && decide (n = 0) := by
  unfold aB
  cases usesAB k <;> rfl
theorem dstB_if (k d : Int) : dstB k d = if setsB k then decide (0 ≤ d) && decide (d ≤ 11) else decide (d = 0) := by
  unfold dstB
  cases setsB k <;> rfl
theorem specJ2 (k : Nat) (b : Bool) (a0 a1 a2 a3 a4 a5 a6 : Int) (l : List Int) : spec_l1Step.j2 (k + 1) b a0 a1 a2 a3 a4 a5 a6 l 0 0 = some (!b && (aB a0 a3 a4 && opB a0 a2 a5 a6)) := by
  simp only [spec_l1Step.j2, specIn, specOpnd, Option.bind_some]
  rw [aB_if, opB_if]
  unfold usesAB
  cases b
  · by_cases h1 : a0 = 1
    · subst h1
      cases (decide (1 ≤ a2) && decide (a2 ≤ 4)) <;> cases opndB a3 a4 <;> simp
    · by_cases h2 : a0 = 2
      · subst h2
        by_cases ho : a2 = 0 <;> cases opndB a3 a4 <;> simp [ho]
        rfl
      · by_cases h4 : a0 = 4
        · subst h4
          by_cases ho : a2 = 0 <;> cases opndB a3 a4 <;> simp [ho]
          rfl
        · by_cases h5 : a0 = 5
          · subst h5
            by_cases ho : a2 = 0 <;> cases opndB a3 a4 <;> simp [ho]
            rfl
          · by_cases ho : a2 = 0 <;> by_cases h3 : a3 = 0 <;> by_cases h4' : a4 = 0 <;> simp [h1, h2, h4, h5, ho, h3, h4']
            rfl
  · simp
theorem specJ1 (k : Nat) (b : Bool) (a0 a1 a2 a3 a4 a5 a6 : Int) (l : List Int) (hb : b = setsB a0) : spec_l1Step.j1 (k + 2) b a0 a1 a2 a3 a4 a5 a6 l 0 0 = some (dstB a0 a1 && (aB a0 a3 a4 && opB a0 a2 a5 a6)) := by
  simp only [spec_l1Step.j1, specIn, Option.bind_some]
  rw [dstB_if, ← hb]
  cases b
  · by_cases h1 : a1 = 0 <;> simp [h1, specJ2]
  · cases (decide (0 ≤ a1) && decide (a1 ≤ 11)) <;> simp [specJ2]
theorem specL0 (n : Nat) (hn : n < 4611686018427387904) (a0 a1 a2 a3 a4 a5 a6 : Int) (l : List Int) (hl : l.length ≤ 9223372036854775807) : ∀ (d : Nat) (i : Int), 0 ≤ i → (l.length : Int) - i = d →
    Ev (fun k => spec_l1Step.l0 k (n : Int) i a0 a1 a2 a3 a4 a5 a6 l) ((l.drop i.toNat).all (fun x => decide (0 ≤ x) && decide (x < (n : Int))) && (dstB a0 a1 && (aB a0 a3 a4 && opB a0 a2 a5 a6)))
  | 0, i, h0, hd => by
    have hdrop : l.drop i.toNat = [] := List.drop_eq_nil_of_le (by omega)
    rw [hdrop]
    refine ev_const 3 (fun k => ?_)
    simp only [spec_l1Step.l0]
    rw [if_neg (by omega)]
    simp only [List.all_nil, Bool.true_and]
    by_cases h1 : a0 = 1
    · rw [if_pos h1, specJ1 _ _ _ _ _ _ _ _ _ _ (by subst h1; rfl)]
    · rw [if_neg h1]
      by_cases h2 : a0 = 2
      · rw [if_pos h2, specJ1 _ _ _ _ _ _ _ _ _ _ (by subst h2; rfl)]
      · rw [if_neg h2, specJ1 _ _ _ _ _ _ _ _ _ _ (by unfold setsB; rw [Bool.eq_iff_iff]; simp; omega)]
  | d + 1, i, h0, hd => by
    have hlt : i < (l.length : Int) := by omega
    obtain ⟨hi, hg⟩ := int_get l i h0 hlt
    have hs : wrap64 ((n : Int) - 1) = (n : Int) - 1 := wrap_id (by omega) (by omega)
    have hi1 : wrap64 (i + 1) = i + 1 := wrap_id (by omega) (by omega)
    have ih := specL0 n hn a0 a1 a2 a3 a4 a5 a6 l hl d (i + 1) (by omega) (by omega)
    have hdrop : l.drop i.toNat = l[i.toNat] :: l.drop (i + 1).toNat := by
      rw [List.drop_eq_getElem_cons hi, show (i + 1).toNat = i.toNat + 1 by omega]
    rw [hdrop, List.all_cons, ← hg]
    have hb : (decide (0 ≤ rd l i) && decide (rd l i ≤ (n : Int) - 1)) = (decide (0 ≤ rd l i) && decide (rd l i < (n : Int))) := by
      rw [Bool.eq_iff_iff]; simp; omega
    cases hc : (decide (0 ≤ rd l i) && decide (rd l i < (n : Int))) with
    | true =>
      refine Ev.step (f := fun k => spec_l1Step.l0 k (n : Int) (i + 1) a0 a1 a2 a3 a4 a5 a6 l) (fun k => ?_) (by simpa using ih)
      simp only [spec_l1Step.l0]
      rw [if_pos hlt, if_pos h0, specIn, hs, hb, hc, hi1]
      simp
    | false =>
      refine ev_const 1 (fun k => ?_)
      simp only [spec_l1Step.l0]
      rw [if_pos hlt, if_pos h0, specIn, hs, hb, hc]
      simp
theorem specStep (s : Step) (n : Nat) (hn : n < 4611686018427387904) (hl : s.f5.length ≤ 9223372036854775807) : Ev (fun k => spec_l1Step.f k s.f0 s.f1 s.f2 s.f3.f0 s.f3.f1 s.f4.f0 s.f4.f1 s.f5 (n : Int)) (stepB s n) := by
  unfold spec_l1Step.f
  have hm : spec_l1Many.f s.f0 = some (if kindB s.f0 then nextsOf s.f0 else -1) := by
    unfold spec_l1Many.f nextsOf kindB
    by_cases h5 : s.f0 = 5
    · simp [h5]
    · by_cases h7 : s.f0 = 7
      · simp [h7]
      · by_cases h1 : s.f0 = 1
        · simp [h1]
        · by_cases h2 : s.f0 = 2
          · simp [h2]
          · by_cases h3 : s.f0 = 3
            · simp [h3]
            · by_cases h4 : s.f0 = 4
              · simp [h4]
              · by_cases h6 : s.f0 = 6
                · simp [h6]
                · have : (decide (1 ≤ s.f0) && decide (s.f0 ≤ 7)) = false := by simp; omega
                  simp [h1, h2, h3, h4, h5, h6, h7, this]
  simp only [hm, Option.bind_some]
  unfold stepB
  cases hk : kindB s.f0
  · refine ev_const 0 (fun k => ?_)
    rw [if_neg (by simp)]
    simp
  · simp only [if_true]
    by_cases hlen : (s.f5.length : Int) = nextsOf s.f0
    · refine Ev.congr (f := fun k => spec_l1Step.l0 k (n : Int) 0 s.f0 s.f1 s.f2 s.f3.f0 s.f3.f1 s.f4.f0 s.f4.f1 s.f5) (fun k => by rw [if_pos hlen]) ?_
      have h := specL0 n hn s.f0 s.f1 s.f2 s.f3.f0 s.f3.f1 s.f4.f0 s.f4.f1 s.f5 hl s.f5.length 0 (by omega) (by omega)
      simpa [hlen, Bool.and_assoc] using h
    · refine ev_const 0 (fun k => ?_)
      rw [if_neg hlen]
      simp [hlen]
theorem specOkL (l : List Step) (hl : l.length < 4611686018427387904) (hn : ∀ s ∈ l, s.f5.length ≤ 9223372036854775807) : ∀ (d : Nat) (i : Int), 0 ≤ i → (l.length : Int) - i = d →
    Ev (fun k => spec_ProgOk.l0 k i l) ((l.drop i.toNat).all fun s => stepB s l.length)
  | 0, i, h0, hd => by
    have hdrop : l.drop i.toNat = [] := List.drop_eq_nil_of_le (by omega)
    rw [hdrop]
    refine ev_const 1 (fun k => ?_)
    simp only [spec_ProgOk.l0]
    rw [if_neg (by omega)]
    rfl
  | d + 1, i, h0, hd => by
    have hlt : i < (l.length : Int) := by omega
    obtain ⟨hi, hg⟩ := step_get l i h0 hlt
    have hi1 : wrap64 (i + 1) = i + 1 := wrap_id (by omega) (by omega)
    have ih := specOkL l hl hn d (i + 1) (by omega) (by omega)
    have hdrop : l.drop i.toNat = l[i.toNat] :: l.drop (i + 1).toNat := by
      rw [List.drop_eq_getElem_cons hi, show (i + 1).toNat = i.toNat + 1 by omega]
    rw [hdrop, List.all_cons, ← hg]
    have hst := specStep (rd_T68 l i) l.length hl (hn _ (by rw [hg]; exact List.getElem_mem hi))
    refine Ev.step (f := fun k => (spec_l1Step.f k (rd_T68 l i).f0 (rd_T68 l i).f1 (rd_T68 l i).f2 (rd_T68 l i).f3.f0 (rd_T68 l i).f3.f1 (rd_T68 l i).f4.f0 (rd_T68 l i).f4.f1 (rd_T68 l i).f5 (l.length : Int)).bind fun t => if t = true then spec_ProgOk.l0 k (i + 1) l else some false) (fun k => ?_) (Ev.bind hst ?_)
    · simp only [spec_ProgOk.l0]
      rw [if_pos hlt, if_pos h0, hi1]
    · cases stepB (rd_T68 l i) l.length
      · exact ev_const 0 (fun k => by simp)
      · refine Ev.congr (f := fun k => spec_ProgOk.l0 k (i + 1) l) (fun k => by simp) ?_
        simpa using ih
theorem specOk (l : List Step) (hl : l.length < 4611686018427387904) (hn : ∀ s ∈ l, s.f5.length ≤ 9223372036854775807) : Ev (fun k => spec_ProgOk.f k l) (progB l) := by
  unfold spec_ProgOk.f progB
  by_cases h1 : (l.length : Int) < 1
  · refine Ev.congr (f := fun k => spec_ProgOk.j0 k true l) (fun k => by rw [if_pos h1]) (ev_const 1 (fun k => ?_))
    simp only [spec_ProgOk.j0, if_true]
    have : decide (1 ≤ l.length) = false := decide_eq_false (by omega)
    simp [this]
  · refine Ev.congr (f := fun k => spec_ProgOk.j0 k (decide ((l.length : Int) > 60)) l) (fun k => by rw [if_neg h1]) ?_
    have e1 : decide (1 ≤ l.length) = true := decide_eq_true (by omega)
    by_cases h2 : (l.length : Int) > 60
    · refine ev_const 1 (fun k => ?_)
      simp only [spec_ProgOk.j0, h2, decide_true, if_true]
      have : decide (l.length ≤ 60) = false := decide_eq_false (by omega)
      simp [this]
    · have e2 : decide (l.length ≤ 60) = true := decide_eq_true (by omega)
      have h := specOkL l hl hn l.length 0 (by omega) (by omega)
      refine Ev.step (f := fun k => spec_ProgOk.l0 k 0 l) (fun k => ?_) (by simpa [e1, e2] using h)
      simp [spec_ProgOk.j0, h2]
end Go.Proofs.Ytkehjekbglajhaa.Pure
