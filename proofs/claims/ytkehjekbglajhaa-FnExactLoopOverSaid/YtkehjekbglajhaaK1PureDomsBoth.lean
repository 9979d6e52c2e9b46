/- The table of what stands on each way: the reference's loops and the program's loops come to it. -/
import Derived.Test.YtkehjekbglajhaaK1PureDoms
import Derived.Test.YtkehjekbglajhaaK1F11
namespace Go.Proofs.Ytkehjekbglajhaa.Pure
set_option linter.unusedVariables false
open Go.RowKit Go.Proofs.Ytkehjekbglajhaa.F Go.Proofs.YtkehjekbglajhaaW.PrintWords Go.Proofs.YtkehjekbglajhaaW.PrintLast

theorem row_at (M : List (List Bool)) (t s : Nat) : rdOf false (rd_L9 M (t : Int)) (s : Int) = at2 M t s := rfl
theorem predRow (l : List Step) (R : List Bool) (t : Nat) (ht : t < l.length) : rd_L2 (predRows l R) t = pre l R l.length t := rd_L2_get (predRows_get l R t ht)
/-! ### the reference -/
theorem l2AllEv (l : List Step) (M : List (List Bool)) (hM : M.length = l.length) (hr : ∀ i, i < l.length → (M.getD i []).length = l.length) (hl : l.length ≤ 60) (xs : List Int) (hx : ∀ u ∈ xs, 0 ≤ u ∧ u < (l.length : Int)) (hxl : xs.length ≤ 1000) (s : Nat) (hs : s < l.length) :
    Ev (fun k => spec_l2All.f k M xs (s : Int)) (xs.all fun u => at2 M u.toNat s) := by
  unfold spec_l2All.f
  obtain ⟨r, hr', hq⟩ := ev_loop (g := fun k (i : Int) => spec_l2All.l0 k M xs (s : Int) i) (fun i => 0 ≤ i ∧ i ≤ xs.length ∧ ((xs.drop i.toNat).all fun u => at2 M u.toNat s) = xs.all fun u => at2 M u.toNat s) (fun i => (xs.length - i).toNat) (fun r => r = xs.all fun u => at2 M u.toNat s)
    (fun i ⟨h0, h1, h2⟩ => by
      by_cases hlt : i < (xs.length : Int)
      · have hd := drop_get xs i h0 hlt
        rw [hd, List.all_cons] at h2
        obtain ⟨b0, b1⟩ := hx _ (rd_mem xs i h0 hlt)
        have hrow : (rd_L9 M (rd xs i)).length = l.length := hr _ (by omega)
        have hat : rdOf false (rd_L9 M (rd xs i)) (s : Int) = at2 M (rd xs i).toNat s := rfl
        cases hc : at2 M (rd xs i).toNat s with
        | false =>
          refine .inr ⟨false, ev_const 1 (fun k => ?_), by rw [← h2, hc]; rfl⟩
          simp only [spec_l2All.l0]
          rw [if_pos hlt, if_pos h0, if_pos b0, if_pos (by omega), if_pos (by omega), if_pos (by omega), hat, hc, if_neg (by decide)]
        | true =>
          refine .inl ⟨i + 1, ⟨by omega, by omega, by rw [← h2, hc]; rfl⟩, by omega, Leads.step (fun k => ?_)⟩
          simp only [spec_l2All.l0]
          rw [if_pos hlt, if_pos h0, if_pos b0, if_pos (by omega), if_pos (by omega), if_pos (by omega), hat, hc, if_pos rfl, wrap_id (by omega) (by omega)]
      · refine .inr ⟨true, ev_const 1 (fun k => ?_), by rw [← h2, List.drop_eq_nil_of_le (by omega)]; rfl⟩
        simp only [spec_l2All.l0]
        rw [if_neg hlt]) 0 ⟨by omega, by omega, by simp⟩
  rw [← hq]
  exact hr'
theorem specDomL1 (l : List Step) (g : Good l) (R : List Bool) (hR : R.length = l.length) (P : List (List Int)) (t : Nat) (ht : t < l.length) (x3 : List (List Bool)) (hx : x3.length < 5864062014805) :
    Leads (fun k => spec_FlowDoms.l1 k x3 R P (t : Int) (List.replicate l.length false) 0 l) (fun k => spec_FlowDoms.l0 k (x3 ++ [(List.range l.length).map fun s : Nat => R.getD t false && (R.getD s false && (decide (0 < t) || s == 0))]) R P ((t : Int) + 1) l) := by
  have hle := g.le
  refine Leads.trans (leads_fill (g := fun k x i => spec_FlowDoms.l1 k x3 R P (t : Int) x i l) (n := l.length) (fun s : Nat => R.getD t false && (R.getD s false && (decide (0 < t) || s == 0))) (fun k x s hx' hs => ?_) _ (by simp)) (Leads.step (fun k => ?_))
  · simp only [spec_FlowDoms.l1]
    have e1 : rdOf false R (t : Int) = R.getD t false := rfl
    have e2 : rdOf false R (s : Int) = R.getD s false := rfl
    have e3 : ((s : Int) == 0) = (s == 0) := by rw [Bool.eq_iff_iff]; simp
    have hw : wrap64 ((s : Int) + 1) = (s : Int) + 1 := wrap_id (by omega) (by omega)
    rw [if_pos (by omega), if_pos (by omega), if_pos (by omega), e1, e2, hw, e3]
    have hsx : (s : Int) < (x.length : Int) := by omega
    have hsR : (s : Int) < (R.length : Int) := by omega
    have hs0 : (0 : Int) ≤ (s : Int) := by omega
    simp only [hsx, hsR, hs0, if_true, Int.toNat_natCast]
    cases R.getD t false
    · simp
    · cases R.getD s false
      · simp
      · simp only [if_true, Bool.true_and]
        by_cases h0 : (t : Int) > 0
        · rw [if_pos h0, decide_eq_true (by omega : 0 < t)]
          rfl
        · rw [if_neg h0, decide_eq_false (by omega : ¬ 0 < t)]
          rfl
  · simp only [spec_FlowDoms.l1]
    rw [if_neg (by omega), if_pos hx, wrap_id (by omega) (by omega)]
theorem specDomL0 (l : List Step) (g : Good l) (R : List Bool) (hR : R.length = l.length) (P : List (List Int)) : Leads (fun k => spec_FlowDoms.l0 k [] R P 0 l) (fun k => spec_FlowDoms.l2 k (initM R l.length) P true l) := by
  have hle := g.le
  obtain ⟨s, hI, hL⟩ := leads_to (g := fun k i (s : List (List Bool)) => spec_FlowDoms.l0 k s R P i l) (n := l.length) (by omega) (fun i s => s = (List.range i.toNat).map fun t => (List.range l.length).map fun s : Nat => R.getD t false && (R.getD s false && (decide (0 < t) || s == 0))) (fun i s h0 h1 hs => by
    subst hs
    refine ⟨_, rfl, ?_⟩
    have hL := specDomL1 l g R hR P i.toNat (by omega) ((List.range i.toNat).map fun t => (List.range l.length).map fun s : Nat => R.getD t false && (R.getD s false && (decide (0 < t) || s == 0))) (by simp; omega)
    rw [show ((i.toNat : Nat) : Int) = i by omega] at hL
    rw [show (i + 1).toNat = i.toNat + 1 by omega, List.range_succ, List.map_append]
    refine Leads.trans (Leads.step (fun k => ?_)) hL
    simp only [spec_FlowDoms.l0]
    rw [if_pos h1, if_pos (by omega), if_pos (by omega)]
    rfl) [] rfl
  subst hI
  refine hL.trans (Leads.step (fun k => ?_))
  simp only [spec_FlowDoms.l0]
  rw [if_neg (by omega)]
  rfl
theorem specDomLoops (l : List Step) (g : Good l) (R : List Bool) (hR : IsRch l R) : ∃ D, IsDom l D ∧ Ev (fun k => spec_FlowDoms.l2 k (initM R l.length) (predRows l R) true l) D := by
  have hle := g.le
  refine domLoops g hR (g2 := fun k M c => spec_FlowDoms.l2 k M (predRows l R) c l) (g3 := fun k M c t => spec_FlowDoms.l3 k M (predRows l R) c t l) (g4 := fun k M c t s => spec_FlowDoms.l4 k M (predRows l R) c t s l) (fin := id)
    (fun k M c => by simp only [spec_FlowDoms.l2]; rfl) (fun k M c t => by simp only [spec_FlowDoms.l3]) (fun k M c t h0 h1 => ?_) (fun M c t s hM ht hs => ?_) _ (initM_inv g hR)
  · simp only [spec_FlowDoms.l4]
    rw [if_neg (by omega), wrap_id (by omega) (by omega)]
  · have hrow : (rd_L9 M (t : Int)).length = l.length := hM.row t ht
    have hML := hM.len
    have hw : wrap64 ((s : Int) + 1) = (s : Int) + 1 := wrap_id (by omega) (by omega)
    have hat := row_at M t s
    unfold badAt
    cases hc : at2 M t s with
    | false =>
      refine Leads.step (fun k => ?_)
      simp only [spec_FlowDoms.l4]
      rw [if_pos (by omega), if_pos (by omega), if_pos (by omega), if_pos (by omega), if_pos (by omega), hat, hc, if_neg (by decide), hw]
      simp
    | true =>
      by_cases e : s = t
      · refine Leads.step (fun k => ?_)
        simp only [spec_FlowDoms.l4]
        rw [if_pos (by omega), if_pos (by omega), if_pos (by omega), if_pos (by omega), if_pos (by omega), hat, hc, if_pos rfl, if_pos (by omega), hw]
        simp [e]
      · have hE := l2AllEv l M hM.len hM.row hle (pre l R l.length t) (fun u hu => pre_lt l R l.length t u hu) (by have := pre_len l R l.length t; omega) s hs
        refine Leads.trans (Leads.step (h := fun k => (spec_l2All.f k M (pre l R l.length t) (s : Int)).bind fun b => if b = true then spec_FlowDoms.l4 k M (predRows l R) c (t : Int) ((s : Int) + 1) l else spec_FlowDoms.l4 k (setAt M t s) (predRows l R) true (t : Int) ((s : Int) + 1) l) (fun k => ?_)) (Leads.trans (Leads.bind hE) (Leads.congr (fun k => ?_)))
        · simp only [spec_FlowDoms.l4]
          rw [if_pos (by omega), if_pos (by omega), if_pos (by omega), if_pos (by omega), if_pos (by omega), hat, hc, if_pos rfl, if_neg (by omega), if_pos (by rw [predRows_len]; omega), predRow l R t ht, hw]
          rfl
        · have e1 : ((pre l R l.length t).any fun u => !at2 M u.toNat s) = !((pre l R l.length t).all fun u => at2 M u.toNat s) := List.not_all_eq_any_not.symm
          have e2 : (s != t) = true := by simpa using e
          rw [e1, e2]
          cases ((pre l R l.length t).all fun u => at2 M u.toNat s) <;> simp
theorem specDoms (l : List Step) (h : progB l = true) : ∃ D, IsDom l D ∧ Ev (fun k => spec_FlowDoms.f k l) D := by
  have g := good_of l h
  obtain ⟨R, hR, hE⟩ := specReach l h
  obtain ⟨D, hD, hL⟩ := specDomLoops l g R hR
  refine ⟨D, hD, ?_⟩
  unfold spec_FlowDoms.f
  have hok := specOk l (lens_of l h).1 (lens_of l h).2
  rw [h] at hok
  simp only [Option.bind_some]
  refine Ev.bind hok (Ev.congr (fun k => by rw [if_pos rfl]) (Ev.bind hE (Ev.bind (specPreds l h R hR) ?_)))
  exact specDomL0 l g R hR.len _ _ hL
/-! ### the program -/
theorem anyDomEv (l : List Step) (M : List (List Bool)) (hM : M.length = l.length) (hr : ∀ i, i < l.length → (M.getD i []).length = l.length) (xs : List Int) (hx : ∀ u ∈ xs, 0 ≤ u ∧ u < (l.length : Int)) (s : Nat) (hs : s < l.length) :
    anyDom.f xs M (s : Int) = some (xs.any fun u => !at2 M u.toNat s) := by
  unfold anyDom.f
  refine anyO_eval _ _ xs (fun u hu => ?_)
  obtain ⟨b0, b1⟩ := hx u hu
  have hrow : (rd_L9 M u).length = l.length := hr _ (by omega)
  rw [if_pos b0, if_pos (by omega), if_pos (by omega), if_pos (by omega)]
  rfl
theorem implDomLoops (l : List Step) (g : Good l) (R : List Bool) (hR : IsRch l R) : ∃ D, IsDom l D ∧ Ev (fun k => impl_Prog_doms.l2 k (initM R l.length) (predRows l R) true (l.length : Int)) D := by
  have hle := g.le
  refine domLoops g hR (g2 := fun k M c => impl_Prog_doms.l2 k M (predRows l R) c (l.length : Int)) (g3 := fun k M c t => impl_Prog_doms.l3 k M (predRows l R) c t (l.length : Int)) (g4 := fun k M c t s => impl_Prog_doms.l4 k M (predRows l R) c t s (l.length : Int)) (fin := id)
    (fun k M c => by simp only [impl_Prog_doms.l2]; rfl) (fun k M c t => by simp only [impl_Prog_doms.l3]) (fun k M c t h0 h1 => ?_) (fun M c t s hM ht hs => ?_) _ (initM_inv g hR)
  · simp only [impl_Prog_doms.l4]
    rw [if_neg (by omega), wrap_id (by omega) (by omega)]
  · have hrow : (rd_L9 M (t : Int)).length = l.length := hM.row t ht
    have hML := hM.len
    have hw : wrap64 ((s : Int) + 1) = (s : Int) + 1 := wrap_id (by omega) (by omega)
    have hat := row_at M t s
    unfold badAt
    refine Leads.step (fun k => ?_)
    simp only [impl_Prog_doms.l4]
    rw [if_pos (by omega), if_pos (by omega), if_pos (by omega), if_pos (by omega), if_pos (by omega), hat, hw]
    cases hc : at2 M t s with
    | false => simp
    | true =>
      rw [if_pos rfl]
      by_cases e : s = t
      · rw [if_pos (by omega)]
        simp [e]
      · have e2 : (s != t) = true := by simpa using e
        rw [if_neg (by omega), if_pos (by rw [predRows_len]; omega), predRow l R t ht, anyDomEv l M hM.len hM.row _ (fun u hu => pre_lt l R l.length t u hu) s hs, e2]
        simp only [Option.bind_some, Bool.true_and]
        rfl
theorem implDoms (l : List Step) (h : progB l = true) : ∃ D, IsDom l D ∧ Ev (fun k => impl_Prog_doms.f k l) D := by
  have g := good_of l h
  obtain ⟨R, hR, hE⟩ := implReach l h
  obtain ⟨D, hD, hL⟩ := implDomLoops l g R hR
  refine ⟨D, hD, ?_⟩
  unfold impl_Prog_doms.f
  refine Ev.bind hE (Ev.bind (implPreds l h R hR) ?_)
  exact Ev.congr (fun k => by rw [if_pos ⟨by have := g.le; omega, hR.len⟩]; rfl) hL
end Go.Proofs.Ytkehjekbglajhaa.Pure
