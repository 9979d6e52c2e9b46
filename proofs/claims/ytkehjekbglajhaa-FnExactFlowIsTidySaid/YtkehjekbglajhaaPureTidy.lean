/- Plain facts on FlowIsTidy: both count the ways that lead to a step, and ask the same of them. -/
import Derived.Test.YtkehjekbglajhaaPureReach
import Derived.Test.YtkehjekbglajhaaF22
import Derived.Test.YtkehjekbglajhaaF22
namespace Go.Proofs.Ytkehjekbglajhaa.Pure
open Go.RowKit Go.Proofs.Ytkehjekbglajhaa.F Go.Proofs.YtkehjekbglajhaaW.PrintWords Go.Proofs.YtkehjekbglajhaaW.PrintLast

/-- All ends of ways, in the order of the steps. -/
def ends (l : List Step) : List Int := l.flatMap (·.f5)
/-- How many ways lead to a step. -/
def ways (l : List Step) (j : Int) : Nat := (ends l).count j
theorem drop_step (l : List Step) (i : Int) (h0 : 0 ≤ i) (h1 : i < (l.length : Int)) : ends (l.drop i.toNat) = nx l i.toNat ++ ends (l.drop (i + 1).toNat) := by
  obtain ⟨hi, hg⟩ := step_get l i h0 h1
  rw [List.drop_eq_getElem_cons hi, show (i + 1).toNat = i.toNat + 1 by omega, ends, List.flatMap_cons, ← hg, nx_eq l i h0 h1]
  rfl
theorem ends_few (l : List Step) (h : ∀ s ∈ l, s.f5.length ≤ 2) : (ends l).length ≤ 2 * l.length := by
  induction l with
  | nil => simp [ends]
  | cons s l ih =>
    have := ih (fun t ht => h t (by simp [ht]))
    have := h s (by simp)
    unfold ends at *
    simp only [List.flatMap_cons, List.length_append, List.length_cons]
    omega
theorem Good.few2 {l : List Step} (g : Good l) : ∀ s ∈ l, s.f5.length ≤ 2 := by
  intro s hs
  obtain ⟨i, hi, rfl⟩ := List.getElem_of_mem hs
  have := g.few i
  unfold nx at this
  rw [List.getElem?_eq_getElem hi] at this
  exact this
theorem ends_small {l : List Step} (g : Good l) (i : Nat) : (ends (l.drop i)).length ≤ 120 := by
  have := ends_few (l.drop i) (fun s hs => g.few2 s (List.mem_of_mem_drop hs))
  have := g.le
  rw [List.length_drop] at *
  omega

/-! ### the reference counts -/
theorem waysL1 (l : List Step) (g : Good l) (t : Int) (i : Int) (h0 : 0 ≤ i) (h1 : i < (l.length : Int)) (R : Int)
    : ∀ (d : Nat) (k a : Int), 0 ≤ k → ((nx l i.toNat).length : Int) - k = d → 0 ≤ a → a ≤ 1000 + k → (Ev (fun n => spec_l2Ways.l0 n t (a + (((nx l i.toNat).drop k.toNat).count t : Nat)) (i + 1) l) R) → Ev (fun n => spec_l2Ways.l1 n t a i k l) R
  | 0, k, a, hk, hd, ha, ha', hE => by
    have hw : wrap64 (i + 1) = i + 1 := wrap_id (by omega) (by have := g.le; omega)
    rw [List.drop_eq_nil_of_le (by omega)] at hE
    refine Ev.step (fun n => ?_) (by simpa using hE)
    simp only [spec_l2Ways.l1]
    rw [if_pos h0, if_pos h1, nx_eq l i h0 h1, if_neg (by omega), hw]
  | d + 1, k, a, hk, hd, ha, ha', hE => by
    have hlt : k < ((nx l i.toNat).length : Int) := by omega
    have hf := g.few i.toNat
    have hwk : wrap64 (k + 1) = k + 1 := wrap_id (by omega) (by omega)
    have hwa : wrap64 (a + 1) = a + 1 := wrap_id (by omega) (by omega)
    rw [drop_get _ k hk hlt, List.count_cons] at hE
    by_cases e : rd (nx l i.toNat) k = t
    · have e' : (rd (nx l i.toNat) k == t) = true := by simpa using e
      rw [e', if_pos rfl] at hE
      refine Ev.step (f := fun n => spec_l2Ways.l1 n t (a + 1) i (k + 1) l) (fun n => ?_) (waysL1 l g t i h0 h1 R d (k + 1) (a + 1) (by omega) (by omega) (by omega) (by omega) ?_)
      · simp only [spec_l2Ways.l1]
        rw [if_pos h0, if_pos h1, nx_eq l i h0 h1, if_pos hlt, if_pos hk, if_pos e, hwk, hwa]
      · rw [show a + 1 + (((nx l i.toNat).drop (k + 1).toNat).count t : Nat) = a + ((((nx l i.toNat).drop (k + 1).toNat).count t + 1 : Nat) : Int) by omega]
        exact hE
    · have e' : (rd (nx l i.toNat) k == t) = false := by simpa using e
      rw [e', if_neg (by decide), Nat.add_zero] at hE
      refine Ev.step (f := fun n => spec_l2Ways.l1 n t a i (k + 1) l) (fun n => ?_) (waysL1 l g t i h0 h1 R d (k + 1) a (by omega) (by omega) (by omega) (by omega) hE)
      simp only [spec_l2Ways.l1]
      rw [if_pos h0, if_pos h1, nx_eq l i h0 h1, if_pos hlt, if_pos hk, if_neg e, hwk]
theorem waysL0 (l : List Step) (g : Good l) (t : Int) : ∀ (d : Nat) (i a : Int), 0 ≤ i → (l.length : Int) - i = d → 0 ≤ a → a + ((ends (l.drop i.toNat)).length : Nat) ≤ 200 → Ev (fun n => spec_l2Ways.l0 n t a i l) (a + ((ends (l.drop i.toNat)).count t : Nat))
  | 0, i, a, h0, hd, ha, ha' => by
    rw [List.drop_eq_nil_of_le (by omega)]
    refine ev_const 1 (fun n => ?_)
    simp only [spec_l2Ways.l0]
    rw [if_neg (by omega)]
    simp [ends]
  | d + 1, i, a, h0, hd, ha, ha' => by
    have h1 : i < (l.length : Int) := by omega
    rw [drop_step l i h0 h1, List.count_append]
    rw [drop_step l i h0 h1, List.length_append] at ha'
    have hc : (nx l i.toNat).count t ≤ (nx l i.toNat).length := List.count_le_length
    refine Ev.step (f := fun n => spec_l2Ways.l1 n t a i 0 l) (fun n => ?_) (waysL1 l g t i h0 h1 _ (nx l i.toNat).length 0 a (by omega) (by omega) ha (by omega) ?_)
    · simp only [spec_l2Ways.l0]
      rw [if_pos h1]
    · have ih := waysL0 l g t d (i + 1) (a + ((nx l i.toNat).count t : Nat)) (by omega) (by omega) (by omega) (by omega)
      rw [show a + (((nx l i.toNat).count t + (ends (l.drop (i + 1).toNat)).count t : Nat) : Int) = a + ((nx l i.toNat).count t : Nat) + ((ends (l.drop (i + 1).toNat)).count t : Nat) by omega]
      simpa using ih
theorem specWays (l : List Step) (g : Good l) (t : Int) : Ev (fun n => spec_l2Ways.f n l t) (ways l t : Nat) := by
  unfold spec_l2Ways.f
  have h := waysL0 l g t l.length 0 0 (by omega) (by omega) (by omega) (by have := ends_small g (0 : Int).toNat; omega)
  simpa [ways] using h

/-! ### the program counts -/
def adds (o : List Int) (xs : List Int) : List Int := xs.foldl (fun o x => o.set x.toNat (rd o x + 1)) o
theorem rd_set (o : List Int) (x y v : Int) (hx : 0 ≤ x) (hx' : x < (o.length : Int)) (hy : 0 ≤ y) : rd (o.set x.toNat v) y = if y = x then v else rd o y := by
  unfold rd
  by_cases e : y = x
  · subst e
    rw [if_pos rfl, List.getD_eq_getElem?_getD, List.getElem?_set_self (by omega)]
    rfl
  · rw [if_neg e, List.getD_eq_getElem?_getD, List.getElem?_set_ne (by omega), ← List.getD_eq_getElem?_getD]
theorem adds_len (xs : List Int) : ∀ o, (adds o xs).length = o.length := by
  induction xs with
  | nil => intro o; rfl
  | cons x xs ih => intro o; show (adds _ xs).length = _; rw [ih]; simp
theorem adds_rd (xs : List Int) : ∀ (o : List Int), (∀ x ∈ xs, 0 ≤ x ∧ x < (o.length : Int)) → ∀ j : Int, 0 ≤ j → rd (adds o xs) j = rd o j + (xs.count j : Nat) := by
  induction xs with
  | nil => intro o _ j _; simp [adds]
  | cons x xs ih =>
    intro o h j hj
    have hx := h x (by simp)
    show rd (adds _ xs) j = _
    rw [ih _ (fun y hy => by have := h y (by simp [hy]); rw [List.length_set]; exact this) j hj, rd_set o x j _ hx.1 hx.2 hj, List.count_cons]
    by_cases e : j = x
    · subst e
      simp
      omega
    · have e' : (x == j) = false := by simpa using fun h => e h.symm
      rw [if_neg e, e']
      simp
theorem rd_replicate (n : Nat) (j : Int) : rd (List.replicate n 0) j = 0 := by
  unfold rd
  rw [List.getD_eq_getElem?_getD, List.getElem?_replicate]
  split <;> rfl
theorem inL1 (l : List Step) (g : Good l) (i : Int) (h0 : 0 ≤ i) (h1 : i < (l.length : Int)) (R : List Int) : ∀ (d : Nat) (k : Int) (o : List Int), 0 ≤ k → ((nx l i.toNat).length : Int) - k = d → o.length = l.length → (∀ j, 0 ≤ j → 0 ≤ rd o j ∧ rd o j ≤ 1000 + k) →
    Ev (fun n => impl_Prog_incoming.l0 n (adds o ((nx l i.toNat).drop k.toNat)) l (l.length : Int) (i + 1)) R → Ev (fun n => impl_Prog_incoming.l1 n o l (l.length : Int) i (nx l i.toNat) ((nx l i.toNat).length : Int) k) R
  | 0, k, o, hk, hd, hl, hb, hE => by
    have hw : wrap64 (i + 1) = i + 1 := wrap_id (by omega) (by have := g.le; omega)
    rw [List.drop_eq_nil_of_le (by omega)] at hE
    refine Ev.step (fun n => ?_) hE
    simp only [impl_Prog_incoming.l1]
    rw [if_neg (by omega), hw]
    rfl
  | d + 1, k, o, hk, hd, hl, hb, hE => by
    have hlt : k < ((nx l i.toNat).length : Int) := by omega
    have hf := g.few i.toNat
    have hx := g.nxt _ _ (rd_mem _ k hk hlt)
    have hwk : wrap64 (k + 1) = k + 1 := wrap_id (by omega) (by omega)
    have hv := hb _ hx.1
    have hwv : wrap64 (rd o (rd (nx l i.toNat) k) + 1) = rd o (rd (nx l i.toNat) k) + 1 := wrap_id (by omega) (by omega)
    rw [drop_get _ k hk hlt] at hE
    refine Ev.step (f := fun n => impl_Prog_incoming.l1 n (o.set (rd (nx l i.toNat) k).toNat (rd o (rd (nx l i.toNat) k) + 1)) l (l.length : Int) i (nx l i.toNat) ((nx l i.toNat).length : Int) (k + 1)) (fun n => ?_)
      (inL1 l g i h0 h1 R d (k + 1) _ (by omega) (by omega) (by simpa using hl) (fun j hj => ?_) hE)
    · simp only [impl_Prog_incoming.l1]
      rw [if_pos hlt, if_pos hk, if_pos hlt, if_pos hx.1, if_pos (by omega), hwv, hwk]
    · rw [rd_set o _ j _ hx.1 (by omega) hj]
      have := hb j hj
      split <;> omega
theorem inL0 (l : List Step) (g : Good l) : ∀ (d : Nat) (i : Int) (o : List Int), 0 ≤ i → (l.length : Int) - i = d → o.length = l.length → (∀ j, 0 ≤ j → 0 ≤ rd o j ∧ rd o j ≤ 1000 - (d : Int) * 10) →
    Ev (fun n => impl_Prog_incoming.l0 n o l (l.length : Int) i) (adds o (ends (l.drop i.toNat)))
  | 0, i, o, h0, hd, hl, hb => by
    rw [List.drop_eq_nil_of_le (by omega)]
    refine ev_const 1 (fun n => ?_)
    simp only [impl_Prog_incoming.l0]
    rw [if_neg (by omega)]
    rfl
  | d + 1, i, o, h0, hd, hl, hb => by
    have h1 : i < (l.length : Int) := by omega
    have hf := g.few i.toNat
    have happ : adds o (ends (l.drop i.toNat)) = adds (adds o (nx l i.toNat)) (ends (l.drop (i + 1).toNat)) := by
      rw [drop_step l i h0 h1]
      exact List.foldl_append
    rw [happ]
    have ih := inL0 l g d (i + 1) (adds o (nx l i.toNat)) (by omega) (by omega) (by rw [adds_len]; exact hl) (fun j hj => by
      rw [adds_rd _ _ (fun x hx => by have := g.nxt _ x hx; omega) j hj]
      have := hb j hj
      have hc : (nx l i.toNat).count j ≤ (nx l i.toNat).length := List.count_le_length
      omega)
    refine Ev.step (f := fun n => impl_Prog_incoming.l1 n o l (l.length : Int) i (nx l i.toNat) ((nx l i.toNat).length : Int) 0) (fun n => ?_) (inL1 l g i h0 h1 _ (nx l i.toNat).length 0 o (by omega) (by omega) hl (fun j hj => by have := hb j hj; omega) (by simpa using ih))
    simp only [impl_Prog_incoming.l0]
    rw [if_pos h1, if_pos h0, if_pos h1, nx_eq l i h0 h1]
/-- The ways to each step. -/
def waysList (l : List Step) : List Int := adds (List.replicate l.length 0) (ends l)
theorem implWays (l : List Step) (g : Good l) : Ev (fun n => impl_Prog_incoming.f n l) (waysList l) := by
  unfold impl_Prog_incoming.f waysList
  have h := inL0 l g l.length 0 (List.replicate l.length 0) (by omega) (by omega) (by simp) (fun j hj => by rw [rd_replicate]; have := g.le; omega)
  refine Ev.congr (fun n => ?_) h
  rw [if_pos (by omega), if_pos (by have := g.le; omega)]
  rfl
theorem ends_in {l : List Step} (g : Good l) : ∀ x ∈ ends l, 0 ≤ x ∧ x < (l.length : Int) := by
  intro x hx
  obtain ⟨s, hs, hx⟩ := List.mem_flatMap.1 hx
  obtain ⟨i, hi, rfl⟩ := List.getElem_of_mem hs
  refine g.nxt i x ?_
  unfold nx
  rw [List.getElem?_eq_getElem hi]
  exact hx
theorem waysList_rd {l : List Step} (g : Good l) (j : Int) (hj : 0 ≤ j) : rd (waysList l) j = (ways l j : Nat) := by
  unfold waysList
  rw [adds_rd _ _ (fun x hx => by have := ends_in g x hx; simpa using this) j hj, rd_replicate]
  simp [ways]
theorem waysList_len (l : List Step) : (waysList l).length = l.length := by
  unfold waysList
  rw [adds_len]
  simp

/-! ### what is asked -/
/-- No way from this step, if it is no skip, leads to where ways meet. -/
def meetOk (l : List Step) (s : Step) : Bool := s.f0 == 6 || s.f5.all fun x => decide (ways l x ≤ 1)
def tidyB (l : List Step) (R : List Bool) : Bool := decide (ways l 0 = 0) && (R.all id && l.all (meetOk l))

theorem specTidyL1 (l : List Step) (g : Good l) (R : List Bool) (i : Int) (h0 : 0 ≤ i) (h1 : i < (l.length : Int)) (hk6 : ((rd_T68 l i).f0) ≠ 6) (r : Bool) (hE : Ev (fun n => spec_FlowIsTidy.l0 n R (i + 1) l) r) : ∀ (d : Nat) (k : Int), 0 ≤ k → ((nx l i.toNat).length : Int) - k = d →
    Ev (fun n => spec_FlowIsTidy.l1 n R i k l) (((nx l i.toNat).drop k.toNat).all (fun x => decide (ways l x ≤ 1)) && r)
  | 0, k, hk, hd => by
    have hw : wrap64 (i + 1) = i + 1 := wrap_id (by omega) (by have := g.le; omega)
    rw [List.drop_eq_nil_of_le (by omega)]
    refine Ev.step (f := fun n => spec_FlowIsTidy.j3 n R i k false l) (fun n => ?_) (Ev.step (f := fun n => spec_FlowIsTidy.l0 n R (i + 1) l) (fun n => ?_) (by simpa using hE))
    · simp only [spec_FlowIsTidy.l1]
      rw [if_pos h0, if_pos h1, nx_eq l i h0 h1, if_neg (by omega)]
    · simp only [spec_FlowIsTidy.j3]
      rw [if_neg (by decide), hw]
  | d + 1, k, hk, hd => by
    have hlt : k < ((nx l i.toNat).length : Int) := by omega
    have hf := g.few i.toNat
    have hwk : wrap64 (k + 1) = k + 1 := wrap_id (by omega) (by omega)
    have hb : ((rd_T68 l i).f0 != 6) = true := by simpa using hk6
    have hw := specWays l g (rd (nx l i.toNat) k)
    have ih := specTidyL1 l g R i h0 h1 hk6 r hE d (k + 1) (by omega) (by omega)
    rw [drop_get _ k hk hlt, List.all_cons, Bool.and_assoc]
    refine Ev.step (f := fun n => spec_FlowIsTidy.j3 n R i k true l) (fun n => ?_) ?_
    · simp only [spec_FlowIsTidy.l1]
      rw [if_pos h0, if_pos h1, nx_eq l i h0 h1, if_pos hlt, hb]
    · refine Ev.step (f := fun n => (spec_l2Ways.f n l (rd (nx l i.toNat) k)).bind fun t => if t > 1 then some false else spec_FlowIsTidy.l1 n R i (k + 1) l) (fun n => ?_) (Ev.bind hw ?_)
      · simp only [spec_FlowIsTidy.j3]
        rw [if_pos trivial, if_pos h0, if_pos h1, nx_eq l i h0 h1, if_pos hk, if_pos hlt, hwk]
      · by_cases hc : ways l (rd (nx l i.toNat) k) ≤ 1
        · rw [decide_eq_true hc, Bool.true_and]
          refine Ev.congr (fun n => ?_) ih
          rw [if_neg (by omega)]
        · rw [decide_eq_false hc, Bool.false_and]
          refine ev_const 0 (fun n => ?_)
          rw [if_pos (by omega)]
theorem specTidyL1skip (l : List Step) (g : Good l) (R : List Bool) (i : Int) (h0 : 0 ≤ i) (h1 : i < (l.length : Int)) (hk6 : ((rd_T68 l i).f0) = 6) (r : Bool) (hE : Ev (fun n => spec_FlowIsTidy.l0 n R (i + 1) l) r) : Ev (fun n => spec_FlowIsTidy.l1 n R i 0 l) r := by
  have hw : wrap64 (i + 1) = i + 1 := wrap_id (by omega) (by have := g.le; omega)
  have hb : ((rd_T68 l i).f0 != 6) = false := by rw [hk6]; rfl
  refine Ev.step (f := fun n => spec_FlowIsTidy.j3 n R i 0 false l) (fun n => ?_) (Ev.step (f := fun n => spec_FlowIsTidy.l0 n R (i + 1) l) (fun n => ?_) hE)
  · simp only [spec_FlowIsTidy.l1]
    rw [if_pos h0, if_pos h1, nx_eq l i h0 h1, hb]
    split <;> rfl
  · simp only [spec_FlowIsTidy.j3]
    rw [if_neg (by decide), hw]
theorem bool_get (o : List Bool) (i : Int) (h0 : 0 ≤ i) (h1 : i < (o.length : Int)) : ∃ h : i.toNat < o.length, rdOf false o i = o[i.toNat] :=
  ⟨by omega, getD_getElem o _ i h0 (by omega)⟩
theorem specTidyL0 (l : List Step) (g : Good l) (R : List Bool) (hR : R.length = l.length) : ∀ (d : Nat) (i : Int), 0 ≤ i → (l.length : Int) - i = d →
    Ev (fun n => spec_FlowIsTidy.l0 n R i l) ((R.drop i.toNat).all id && (l.drop i.toNat).all (meetOk l))
  | 0, i, h0, hd => by
    rw [List.drop_eq_nil_of_le (by omega), List.drop_eq_nil_of_le (by omega)]
    refine ev_const 1 (fun n => ?_)
    simp only [spec_FlowIsTidy.l0]
    rw [if_neg (by omega)]
    rfl
  | d + 1, i, h0, hd => by
    have h1 : i < (l.length : Int) := by omega
    obtain ⟨hi, hg⟩ := step_get l i h0 h1
    obtain ⟨hj, hb⟩ := bool_get R i h0 (by omega)
    have ih := specTidyL0 l g R hR d (i + 1) (by omega) (by omega)
    rw [List.drop_eq_getElem_cons hi, List.drop_eq_getElem_cons hj, ← hg, ← hb, List.all_cons, List.all_cons, ← show (i + 1).toNat = i.toNat + 1 by omega]
    cases hc : rdOf false R i with
    | false =>
      refine ev_const 1 (fun n => ?_)
      simp only [spec_FlowIsTidy.l0]
      rw [if_pos h1, if_pos h0, if_pos (by omega), hc]
      simp
    | true =>
      refine Ev.step (f := fun n => spec_FlowIsTidy.l1 n R i 0 l) (fun n => ?_) ?_
      · simp only [spec_FlowIsTidy.l0]
        rw [if_pos h1, if_pos h0, if_pos (by omega), hc, if_pos rfl]
      · by_cases h6 : (rd_T68 l i).f0 = 6
        · have e : meetOk l (rd_T68 l i) = true := by unfold meetOk; simp [h6]
          rw [e]
          simpa using specTidyL1skip l g R i h0 h1 h6 _ ih
        · have e : meetOk l (rd_T68 l i) = (nx l i.toNat).all (fun x => decide (ways l x ≤ 1)) := by
            unfold meetOk
            rw [nx_eq l i h0 h1]
            simp [h6]
          rw [e]
          have h := specTidyL1 l g R i h0 h1 h6 _ ih (nx l i.toNat).length 0 (by omega) (by omega)
          have e2 : ((nx l i.toNat).all (fun x => decide (ways l x ≤ 1)) && ((R.drop (i + 1).toNat).all id && (l.drop (i + 1).toNat).all (meetOk l))) = (id true && (R.drop (i + 1).toNat).all id && ((nx l i.toNat).all (fun x => decide (ways l x ≤ 1)) && (l.drop (i + 1).toNat).all (meetOk l))) := by
            cases (nx l i.toNat).all (fun x => decide (ways l x ≤ 1)) <;> cases (R.drop (i + 1).toNat).all id <;> rfl
          rw [← e2]
          simpa using h
theorem specTidy (l : List Step) (h : progB l = true) (R : List Bool) (hR : IsRch l R) : Ev (fun n => spec_FlowIsTidy.f n l) (tidyB l R) := by
  have g := good_of l h
  unfold spec_FlowIsTidy.f tidyB
  have hok := specOk l (lens_of l h).1 (lens_of l h).2
  rw [h] at hok
  refine Ev.bind hok ?_
  refine Ev.congr (f := fun n => (spec_l2Ways.f n l 0).bind fun t => spec_FlowIsTidy.j0 n (decide (t > 0)) l) (fun n => by rw [if_pos rfl]) (Ev.bind (specWays l g 0) ?_)
  by_cases hw : ways l 0 = 0
  · obtain ⟨R', hR', hE'⟩ := specReach l h
    obtain rfl := hR.unique hR'
    have h0 := specTidyL0 l g R hR.len l.length 0 (by omega) (by omega)
    refine Ev.step (f := fun n => (spec_FlowReach.f n l).bind fun t => spec_FlowIsTidy.l0 n t 0 l) (fun n => ?_) (Ev.bind hE' (by simpa [hw] using h0))
    simp only [spec_FlowIsTidy.j0]
    rw [hw, if_neg (by decide)]
  · refine ev_const 1 (fun n => ?_)
    simp only [spec_FlowIsTidy.j0]
    rw [decide_eq_true (by omega), if_pos rfl]
    simp [hw]
theorem specTidyNo (l : List Step) (hl : l.length < 4611686018427387904) (hn : ∀ s ∈ l, s.f5.length ≤ 9223372036854775807) (h : progB l = false) : Ev (fun n => spec_FlowIsTidy.f n l) false := by
  unfold spec_FlowIsTidy.f
  have hok := specOk l hl hn
  rw [h] at hok
  refine Ev.bind hok (ev_const 1 (fun n => ?_))
  rw [if_neg (by decide)]
  simp [spec_FlowIsTidy.j0]

/-! ### the program's way -/
theorem idxL (R : List Bool) (hl : R.length ≤ 1000) : ∀ (d : Nat) (i : Int), 0 ≤ i → (R.length : Int) - i = d → ∃ v, Ev (fun n => slices_Index_bool_bool.l0 n R false (R.length : Int) i) v ∧ (decide (v ≥ 0) = !((R.drop i.toNat).all id))
  | 0, i, h0, hd => by
    refine ⟨-1, ev_const 1 (fun n => ?_), ?_⟩
    · simp only [slices_Index_bool_bool.l0]
      rw [if_neg (by omega)]
    · rw [List.drop_eq_nil_of_le (by omega)]
      rfl
  | d + 1, i, h0, hd => by
    have h1 : i < (R.length : Int) := by omega
    obtain ⟨hj, hb⟩ := bool_get R i h0 h1
    have hw : wrap64 (i + 1) = i + 1 := wrap_id (by omega) (by omega)
    rw [List.drop_eq_getElem_cons hj, ← hb, List.all_cons, ← show (i + 1).toNat = i.toNat + 1 by omega]
    cases hc : rdOf false R i with
    | false =>
      refine ⟨i, ev_const 1 (fun n => ?_), by simp; exact h0⟩
      simp only [slices_Index_bool_bool.l0]
      rw [if_pos h1, if_pos h0, if_pos h1, hc]
      simp
    | true =>
      obtain ⟨v, hv, hv'⟩ := idxL R hl d (i + 1) (by omega) (by omega)
      refine ⟨v, Ev.step (fun n => ?_) hv, by rw [hv']; simp⟩
      simp only [slices_Index_bool_bool.l0]
      rw [if_pos h1, if_pos h0, if_pos h1, hc, hw]
      simp
theorem containsFalse (R : List Bool) (hl : R.length ≤ 1000) : Ev (fun n => slices_Contains_bool_bool.f n R false) (!(R.all id)) := by
  unfold slices_Contains_bool_bool.f slices_Index_bool_bool.f
  obtain ⟨v, hv, hv'⟩ := idxL R hl R.length 0 (by omega) (by omega)
  refine Ev.bind hv (ev_const 0 (fun n => ?_))
  rw [hv']
  simp
theorem anyMeetEv (l : List Step) (g : Good l) (xs : List Int) (hx : ∀ x ∈ xs, 0 ≤ x ∧ x < (l.length : Int)) : anyMeet.f xs (waysList l) = some (!(xs.all fun x => decide (ways l x ≤ 1))) := by
  unfold anyMeet.f
  rw [anyO_eval _ (fun x => !decide (ways l x ≤ 1)) xs (fun x hm => ?_), List.not_all_eq_any_not]
  have h := hx x hm
  rw [if_pos h.1, if_pos (by rw [waysList_len]; exact h.2), waysList_rd g x h.1]
  congr 1
  rw [Bool.eq_iff_iff]
  simp
  omega
theorem implTidyL0 (l : List Step) (g : Good l) : ∀ (d : Nat) (i : Int), 0 ≤ i → (l.length : Int) - i = d →
    Ev (fun n => impl_FlowIsTidy.l0 n l (l.length : Int) i (waysList l)) ((l.drop i.toNat).all (meetOk l) && decide (ways l 0 = 0))
  | 0, i, h0, hd => by
    rw [List.drop_eq_nil_of_le (by omega)]
    refine ev_const 1 (fun n => ?_)
    simp only [impl_FlowIsTidy.l0]
    rw [if_neg (by omega), if_pos (by rw [waysList_len]; have := g.pos; omega), waysList_rd g 0 (by omega)]
    simp only [List.all_nil, Bool.true_and]
    congr 1
    rw [Bool.eq_iff_iff]
    simp
  | d + 1, i, h0, hd => by
    have h1 : i < (l.length : Int) := by omega
    obtain ⟨hi, hg⟩ := step_get l i h0 h1
    have ih := implTidyL0 l g d (i + 1) (by omega) (by omega)
    have hw : wrap64 (i + 1) = i + 1 := wrap_id (by omega) (by have := g.le; omega)
    rw [List.drop_eq_getElem_cons hi, ← hg, List.all_cons, ← show (i + 1).toNat = i.toNat + 1 by omega, Bool.and_assoc]
    by_cases h6 : (rd_T68 l i).f0 = 6
    · have e : meetOk l (rd_T68 l i) = true := by unfold meetOk; simp [h6]
      rw [e, Bool.true_and]
      refine Ev.step (fun n => ?_) ih
      simp only [impl_FlowIsTidy.l0]
      rw [if_pos h1, if_pos h0, if_pos h1, if_pos h6, hw]
    · have e : meetOk l (rd_T68 l i) = (nx l i.toNat).all (fun x => decide (ways l x ≤ 1)) := by
        unfold meetOk
        rw [nx_eq l i h0 h1]
        simp [h6]
      rw [e]
      have ha := anyMeetEv l g (nx l i.toNat) (fun x hx => g.nxt _ x hx)
      cases hc : (nx l i.toNat).all (fun x => decide (ways l x ≤ 1)) with
      | true =>
        rw [Bool.true_and]
        refine Ev.step (fun n => ?_) ih
        simp only [impl_FlowIsTidy.l0]
        rw [if_pos h1, if_pos h0, if_pos h1, if_neg h6, nx_eq l i h0 h1, ha, hc, hw]
        simp
      | false =>
        rw [Bool.false_and]
        refine ev_const 1 (fun n => ?_)
        simp only [impl_FlowIsTidy.l0]
        rw [if_pos h1, if_pos h0, if_pos h1, if_neg h6, nx_eq l i h0 h1, ha, hc]
        simp
theorem implTidy (l : List Step) (h : progB l = true) (R : List Bool) (hR : IsRch l R) : Ev (fun n => impl_FlowIsTidy.f n l) (tidyB l R) := by
  have g := good_of l h
  unfold impl_FlowIsTidy.f tidyB
  have hok : Ev (fun n => impl_ProgOk.f l) true := ev_const 3 (fun n => by rw [implOk l (lens_of l h).1, h])
  refine Ev.bind hok ?_
  obtain ⟨R', hR', hE'⟩ := implReach l h
  obtain rfl := hR.unique hR'
  refine Ev.congr (f := fun n => (impl_Prog_reach.f n l).bind fun t => (slices_Contains_bool_bool.f n t false).bind fun u => impl_FlowIsTidy.j0 n u l) (fun n => by rw [if_pos rfl]) (Ev.bind hE' (Ev.bind (containsFalse R (by rw [hR.len]; have := g.le; omega)) ?_))
  cases hc : R.all id with
  | false =>
    refine ev_const 1 (fun n => ?_)
    simp [impl_FlowIsTidy.j0]
  | true =>
    have h0 := implTidyL0 l g l.length 0 (by omega) (by omega)
    refine Ev.step (f := fun n => (impl_Prog_incoming.f n l).bind fun t => impl_FlowIsTidy.l0 n l (l.length : Int) 0 t) (fun n => ?_) (Ev.bind (implWays l g) ?_)
    · simp [impl_FlowIsTidy.j0]
    · rw [Bool.true_and, Bool.and_comm]
      simpa using h0
theorem implTidyNo (l : List Step) (hl : l.length < 4611686018427387904) (h : progB l = false) : Ev (fun n => impl_FlowIsTidy.f n l) false := by
  unfold impl_FlowIsTidy.f
  refine Ev.bind (ev_const 3 (fun n => by rw [implOk l hl, h])) (ev_const 1 (fun n => ?_))
  rw [if_neg (by decide)]
  simp [impl_FlowIsTidy.j0]
/-- Both answer the same at every list of steps. -/
theorem bothTidy (l : List Step) (hl : l.length < 4611686018427387904) (hn : ∀ s ∈ l, s.f5.length ≤ 9223372036854775807) : ∃ b, Ev (fun n => spec_FlowIsTidy.f n l) b ∧ Ev (fun n => impl_FlowIsTidy.f n l) b := by
  cases h : progB l with
  | true =>
    obtain ⟨R, hR, _⟩ := implReach l h
    exact ⟨_, specTidy l h R hR, implTidy l h R hR⟩
  | false => exact ⟨false, specTidyNo l hl hn h, implTidyNo l hl h⟩
end Go.Proofs.Ytkehjekbglajhaa.Pure
