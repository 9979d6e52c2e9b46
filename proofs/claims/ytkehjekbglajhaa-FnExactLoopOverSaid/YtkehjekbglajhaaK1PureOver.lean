/- LoopOver and LoopHeads: out of the table of what stands on each way. -/
import Derived.Test.YtkehjekbglajhaaK1PureDomsBoth
import Derived.Test.YtkehjekbglajhaaK1F28
namespace Go.Proofs.Ytkehjekbglajhaa.Pure
set_option linter.unusedVariables false
open Go.RowKit Go.Proofs.Ytkehjekbglajhaa.F Go.Proofs.YtkehjekbglajhaaW.PrintWords Go.Proofs.YtkehjekbglajhaaW.PrintLast

theorem range_foldl_succ {α : Type} (f : α → Nat → α) (a : α) (n : Nat) : (List.range (n + 1)).foldl f a = f ((List.range n).foldl f a) n := by
  rw [List.range_succ, List.foldl_append]
  rfl
/-- The nearest one over t, of those under s. -/
def overStep (D : List (List Bool)) (t : Nat) (b : Int) (s : Nat) : Int := if s ≠ t ∧ at2 D t s = true ∧ (b < 0 ∨ at2 D s b.toNat = true) then (s : Int) else b
def overB (D : List (List Bool)) (t s : Nat) : Int := (List.range s).foldl (overStep D t) (-1)
theorem overB_succ (D : List (List Bool)) (t s : Nat) : overB D t (s + 1) = overStep D t (overB D t s) s := range_foldl_succ _ _ _
theorem overB_range (D : List (List Bool)) (t : Nat) : ∀ s, -1 ≤ overB D t s ∧ overB D t s < s
  | 0 => ⟨(show (-1 : Int) ≤ -1 by decide), (show (-1 : Int) < ((0 : Nat) : Int) by decide)⟩
  | s + 1 => by
    have ih := overB_range D t s
    rw [overB_succ]
    unfold overStep
    split <;> omega
def overL (D : List (List Bool)) (n : Nat) : List Int := (List.range n).map fun t => overB D t n
theorem specOverL1 (l : List Step) (D : List (List Bool)) (hD : D.length = l.length) (hr : ∀ i, i < l.length → (D.getD i []).length = l.length) (hl : l.length ≤ 60) (t : Nat) (ht : t < l.length) (x3 : List Int) (hx : x3.length ≤ 60) :
    Leads (fun k => spec_LoopOver.l1 k x3 D (t : Int) (-1) 0) (fun k => spec_LoopOver.l0 k (x3 ++ [overB D t l.length]) D ((t : Int) + 1)) := by
  obtain ⟨b, hb, hL⟩ := leads_to (g := fun k i (b : Int) => spec_LoopOver.l1 k x3 D (t : Int) b i) (n := l.length) (by omega) (fun i b => b = overB D t i.toNat) (fun i b h0 h1 hb => by
    subst hb
    refine ⟨_, rfl, ?_⟩
    have hi : i.toNat < l.length := by omega
    have ei : ((i.toNat : Nat) : Int) = i := by omega
    have hw : wrap64 (i + 1) = i + 1 := wrap_id (by omega) (by omega)
    obtain ⟨b0, b1⟩ := overB_range D t i.toNat
    rw [show (i + 1).toNat = i.toNat + 1 by omega, overB_succ]
    generalize overB D t i.toNat = b at b0 b1 ⊢
    have h2 : (rd_L9 D (t : Int)).length = l.length := hr t ht
    have h3 : (rd_L9 D i).length = l.length := hr i.toNat hi
    have h4 : rdOf false (rd_L9 D (t : Int)) i = at2 D t i.toNat := rfl
    have h5 : rdOf false (rd_L9 D i) b = at2 D i.toNat b.toNat := rfl
    refine Leads.step (fun k => ?_)
    simp only [spec_LoopOver.l1]
    rw [if_pos (by omega), hw, h4, h5]
    unfold overStep
    by_cases e : i = (t : Int)
    · rw [if_pos e, if_neg (fun hh => hh.1 (by omega))]
    · rw [if_neg e, if_pos (by omega), if_pos (by omega), if_pos (by omega), if_pos (by omega)]
      cases hc : at2 D t i.toNat with
      | false => rw [if_neg (by decide), if_neg (fun hh => by simp at hh)]
      | true =>
        rw [if_pos rfl]
        by_cases hb : b < 0
        · rw [if_pos hb, if_pos ⟨by omega, rfl, .inl hb⟩, ei]
        · rw [if_neg hb, if_pos (by omega), if_pos (by omega)]
          cases hd : at2 D i.toNat b.toNat with
          | false => rw [if_neg (by decide), if_neg (fun hh => by rcases hh.2.2 with h | h; exact hb h; exact absurd h (by decide))]
          | true => rw [if_pos rfl, if_pos ⟨by omega, rfl, .inr rfl⟩, ei]) (-1) rfl
  subst hb
  refine hL.trans (Leads.step (fun k => ?_))
  simp only [spec_LoopOver.l1]
  rw [if_neg (by omega), if_pos (by omega), wrap_id (by omega) (by omega)]
  rfl
theorem specOver (l : List Step) (D : List (List Bool)) (hD : D.length = l.length) (hr : ∀ i, i < l.length → (D.getD i []).length = l.length) (hl : l.length ≤ 60) : Ev (fun k => spec_LoopOver.l0 k [] D 0) (overL D l.length) := by
  obtain ⟨s, hI, hL⟩ := leads_to (g := fun k i (s : List Int) => spec_LoopOver.l0 k s D i) (n := l.length) (by omega) (fun i s => s = (List.range i.toNat).map fun t => overB D t l.length) (fun i s h0 h1 hs => by
    subst hs
    refine ⟨_, rfl, ?_⟩
    have hL := specOverL1 l D hD hr hl i.toNat (by omega) ((List.range i.toNat).map fun t => overB D t l.length) (by simp; omega)
    rw [show ((i.toNat : Nat) : Int) = i by omega] at hL
    rw [show (i + 1).toNat = i.toNat + 1 by omega, List.range_succ, List.map_append]
    refine Leads.trans (Leads.step (fun k => ?_)) hL
    simp only [spec_LoopOver.l0]
    rw [if_pos (by omega)]) [] rfl
  subst hI
  refine hL _ (ev_const 1 (fun k => ?_))
  simp only [spec_LoopOver.l0]
  rw [if_neg (by omega)]
  rfl
theorem implOverL1 (l : List Step) (D : List (List Bool)) (hD : D.length = l.length) (hr : ∀ i, i < l.length → (D.getD i []).length = l.length) (hl : l.length ≤ 60) (t : Nat) (ht : t < l.length) (x : List Int) (hx : x.length = l.length) :
    Leads (fun k => impl_Prog_over.l1 k D (x.set t (-1)) (t : Int) (l.length : Int) (t : Int) (rd_L9 D (t : Int)) (l.length : Int) 0) (fun k => impl_Prog_over.l0 k D (x.set t (overB D t l.length)) (l.length : Int) ((t : Int) + 1)) := by
  obtain ⟨b, hb, hL⟩ := leads_to (g := fun k i (b : Int) => impl_Prog_over.l1 k D (x.set t b) (t : Int) (l.length : Int) (t : Int) (rd_L9 D (t : Int)) (l.length : Int) i) (n := l.length) (by omega) (fun i b => b = overB D t i.toNat) (fun i b h0 h1 hb => by
    subst hb
    refine ⟨_, rfl, ?_⟩
    have hi : i.toNat < l.length := by omega
    have ei : ((i.toNat : Nat) : Int) = i := by omega
    have hw : wrap64 (i + 1) = i + 1 := wrap_id (by omega) (by omega)
    obtain ⟨b0, b1⟩ := overB_range D t i.toNat
    rw [show (i + 1).toNat = i.toNat + 1 by omega, overB_succ]
    generalize overB D t i.toNat = b at b0 b1 ⊢
    have h2 : (rd_L9 D (t : Int)).length = l.length := hr t ht
    have h3 : (rd_L9 D i).length = l.length := hr i.toNat hi
    have h4 : rdOf false (rd_L9 D (t : Int)) i = at2 D t i.toNat := rfl
    have h5 : rdOf false (rd_L9 D i) b = at2 D i.toNat b.toNat := rfl
    have h6 : rd (x.set t b) (t : Int) = b := by
      unfold rd
      rw [List.getD_eq_getElem?_getD, show ((t : Int)).toNat = t by omega, List.getElem?_set_self (by omega)]
      rfl
    have h7 : ((x.set t b).length : Int) = (l.length : Int) := by rw [List.length_set, hx]
    refine Leads.step (fun k => ?_)
    simp only [impl_Prog_over.l1]
    rw [if_pos h1, if_pos h0, if_pos (by omega), hw, h6, h7, h4, h5]
    unfold overStep
    cases hc : at2 D t i.toNat with
    | false => rw [if_neg (by decide), if_neg (fun hh => by simp at hh)]
    | true =>
      rw [if_pos rfl]
      by_cases e : i = (t : Int)
      · rw [if_pos e, if_neg (fun hh => hh.1 (by omega))]
      · rw [if_neg e, if_pos (by omega), if_pos (by omega)]
        by_cases hb : b < 0
        · rw [if_pos hb, if_pos ⟨by omega, rfl, .inl hb⟩, ei, Int.toNat_natCast, List.set_set]
        · rw [if_neg hb, if_pos (by omega), if_pos (by omega), if_pos (by omega)]
          cases hd : at2 D i.toNat b.toNat with
          | false => rw [if_neg (by decide), if_neg (fun hh => by rcases hh.2.2 with h | h; exact hb h; exact absurd h (by decide))]
          | true =>
            rw [if_pos rfl, if_pos ⟨by omega, rfl, .inr rfl⟩, ei, Int.toNat_natCast, List.set_set]) (-1) rfl
  subst hb
  refine hL.trans (Leads.step (fun k => ?_))
  simp only [impl_Prog_over.l1]
  rw [if_neg (by omega), wrap_id (by omega) (by omega)]
  rfl
theorem implOver (l : List Step) (h : progB l = true) : ∃ D, IsDom l D ∧ Ev (fun k => impl_Prog_over.f k l) (overL D l.length) := by
  have hle := (good_of l h).le
  obtain ⟨D, hD, hE⟩ := implDoms l h
  refine ⟨D, hD, ?_⟩
  unfold impl_Prog_over.f
  refine Ev.bind hE (Ev.congr (f := fun k => impl_Prog_over.l0 k D (List.replicate l.length 0) (l.length : Int) 0) (fun k => by rw [if_pos (by omega), if_pos (by omega)]; simp) ?_)
  obtain ⟨s, ⟨hl, hI⟩, hL⟩ := leads_to (g := fun k i (s : List Int) => impl_Prog_over.l0 k D s (l.length : Int) i) (n := l.length) (by omega) (fun i s => s.length = l.length ∧ ∀ j : Nat, (j : Int) < i → s[j]? = some (overB D j l.length)) (fun i s h0 h1 hs => by
    have ei : ((i.toNat : Nat) : Int) = i := by omega
    have hL := implOverL1 l D hD.len hD.row hle i.toNat (by omega) s hs.1
    rw [ei] at hL
    refine ⟨s.set i.toNat (overB D i.toNat l.length), ⟨by rw [List.length_set]; exact hs.1, fun j hj => ?_⟩, Leads.trans (Leads.step (fun k => ?_)) hL⟩
    · by_cases e : j = i.toNat
      · subst e; rw [List.getElem?_set_self (by omega)]
      · rw [List.getElem?_set_ne (by omega)]; exact hs.2 j (by omega)
    · have h2 : (rd_L9 D i).length = l.length := hD.row i.toNat (by omega)
      have hDl := hD.len
      simp only [impl_Prog_over.l0]
      rw [if_pos h1, if_pos h0, if_pos (by omega), if_pos (by omega), h2]) (List.replicate l.length 0) ⟨by simp, fun j hj => absurd hj (by omega)⟩
  obtain rfl : s = overL D l.length := by
    apply List.ext_getElem?
    intro j
    by_cases hj : j < l.length
    · rw [hI j (by omega)]; unfold overL; rw [List.getElem?_map, List.getElem?_range hj]; rfl
    · rw [List.getElem?_eq_none (by omega), List.getElem?_eq_none (by simp [overL]; omega)]
  refine hL _ (ev_const 1 (fun k => ?_))
  simp only [impl_Prog_over.l0]
  rw [if_neg (by omega)]
end Go.Proofs.Ytkehjekbglajhaa.Pure
