/- LoopHeads: a way leads back from a step over which it stands. -/
import Derived.Test.YtkehjekbglajhaaK1PureDomsBoth
import Derived.Test.YtkehjekbglajhaaK1F13
namespace Go.Proofs.Ytkehjekbglajhaa.Pure
set_option linter.unusedVariables false
open Go.RowKit Go.Proofs.Ytkehjekbglajhaa.F Go.Proofs.YtkehjekbglajhaaW.PrintWords Go.Proofs.YtkehjekbglajhaaW.PrintLast

def headB (l : List Step) (R : List Bool) (D : List (List Bool)) (t : Nat) : Bool := (pre l R l.length t).any fun u => at2 D u.toNat t
def headsL (l : List Step) (R : List Bool) (D : List (List Bool)) : List Bool := (List.range l.length).map (headB l R D)
theorem specHeadsL1 (l : List Step) (R : List Bool) (D : List (List Bool)) (hD : D.length = l.length) (hr : ∀ i, i < l.length → (D.getD i []).length = l.length) (hl : l.length ≤ 60) (t : Nat) (ht : t < l.length) (x3 : List Bool) (hx : x3.length ≤ 60) :
    Leads (fun k => spec_LoopHeads.l1 k x3 D (predRows l R) (t : Int) false 0) (fun k => spec_LoopHeads.l0 k (x3 ++ [headB l R D t]) D (predRows l R) ((t : Int) + 1)) := by
  have hpr := predRow l R t ht
  have hpl := pre_len l R l.length t
  have hPl := predRows_len l R
  have hin := pre_lt l R l.length t
  obtain ⟨b, hb, hL⟩ := leads_to (g := fun k i (b : Bool) => spec_LoopHeads.l1 k x3 D (predRows l R) (t : Int) b i) (n := (pre l R l.length t).length) (by omega) (fun i b => b = ((pre l R l.length t).take i.toNat).any fun u => at2 D u.toNat t) (fun i b h0 h1 hb => by
    subst hb
    refine ⟨_, rfl, ?_⟩
    have hw : wrap64 (i + 1) = i + 1 := wrap_id (by omega) (by omega)
    have hi : i.toNat < (pre l R l.length t).length := by omega
    obtain ⟨_, hg⟩ := int_get (pre l R l.length t) i h0 h1
    obtain ⟨b0, b1⟩ := hin _ (rd_mem (pre l R l.length t) i h0 h1)
    have h3 : (rd_L9 D (rd (pre l R l.length t) i)).length = l.length := hr _ (by omega)
    have h5 : rdOf false (rd_L9 D (rd (pre l R l.length t) i)) (t : Int) = at2 D (rd (pre l R l.length t) i).toNat t := rfl
    rw [show (i + 1).toNat = i.toNat + 1 by omega, List.take_succ_eq_append_getElem hi, List.any_append, ← hg]
    refine Leads.step (fun k => ?_)
    simp only [spec_LoopHeads.l1]
    rw [if_pos (by omega), if_pos (by omega), hpr, if_pos h1, hw, h5]
    cases ((pre l R l.length t).take i.toNat).any fun u => at2 D u.toNat t
    · rw [if_neg (by decide), if_pos h0, if_pos b0, if_pos (by omega), if_pos (by omega)]
      simp
    · rw [if_pos rfl]
      simp) false rfl
  subst hb
  refine hL.trans (Leads.step (fun k => ?_))
  simp only [spec_LoopHeads.l1]
  rw [if_pos (by omega), if_pos (by omega), hpr, if_neg (by omega), if_pos (by omega), wrap_id (by omega) (by omega), show (((pre l R l.length t).length : Nat) : Int).toNat = (pre l R l.length t).length by omega, List.take_length]
  rfl
theorem specHeads (l : List Step) (R : List Bool) (D : List (List Bool)) (hD : D.length = l.length) (hr : ∀ i, i < l.length → (D.getD i []).length = l.length) (hl : l.length ≤ 60) : Ev (fun k => spec_LoopHeads.l0 k [] D (predRows l R) 0) (headsL l R D) := by
  obtain ⟨s, hI, hL⟩ := leads_to (g := fun k i (s : List Bool) => spec_LoopHeads.l0 k s D (predRows l R) i) (n := l.length) (by omega) (fun i s => s = (List.range i.toNat).map (headB l R D)) (fun i s h0 h1 hs => by
    subst hs
    refine ⟨_, rfl, ?_⟩
    have hL := specHeadsL1 l R D hD hr hl i.toNat (by omega) ((List.range i.toNat).map (headB l R D)) (by simp; omega)
    rw [show ((i.toNat : Nat) : Int) = i by omega] at hL
    rw [show (i + 1).toNat = i.toNat + 1 by omega, List.range_succ, List.map_append]
    refine Leads.trans (Leads.step (fun k => ?_)) hL
    simp only [spec_LoopHeads.l0]
    rw [if_pos (by omega)]) [] rfl
  subst hI
  refine hL _ (ev_const 1 (fun k => ?_))
  simp only [spec_LoopHeads.l0]
  rw [if_neg (by omega)]
  rfl
theorem anyHeadEv (l : List Step) (M : List (List Bool)) (hM : M.length = l.length) (hr : ∀ i, i < l.length → (M.getD i []).length = l.length) (xs : List Int) (hx : ∀ u ∈ xs, 0 ≤ u ∧ u < (l.length : Int)) (s : Nat) (hs : s < l.length) :
    anyHead.f xs M (s : Int) = some (xs.any fun u => at2 M u.toNat s) := by
  unfold anyHead.f
  refine anyO_eval _ _ xs (fun u hu => ?_)
  obtain ⟨b0, b1⟩ := hx u hu
  have hrow : (rd_L9 M u).length = l.length := hr _ (by omega)
  rw [if_pos b0, if_pos (by omega), if_pos (by omega), if_pos (by omega)]
  rfl
theorem implHeads (l : List Step) (h : progB l = true) (R : List Bool) (hR : IsRch l R) : ∃ D, IsDom l D ∧ Ev (fun k => impl_Prog_heads.f k l) (headsL l R D) := by
  have hle := (good_of l h).le
  obtain ⟨D, hD, hE⟩ := implDoms l h
  refine ⟨D, hD, ?_⟩
  unfold impl_Prog_heads.f
  refine Ev.bind hE (Ev.bind (implPreds l h R hR) (Ev.congr (f := fun k => impl_Prog_heads.l0 k (predRows l R) (List.replicate l.length false) (l.length : Int) 0 D) (fun k => by rw [if_pos (by omega), if_pos (by omega)]; simp) ?_))
  refine ev_fill (g := fun k x i => impl_Prog_heads.l0 k (predRows l R) x (l.length : Int) i D) (n := l.length) (headB l R D) (fun k x i hx hi => ?_) (fun k => ?_) _ (by simp)
  · have hPl := predRows_len l R
    simp only [impl_Prog_heads.l0]
    rw [if_pos (by omega), if_pos (by omega), if_pos (by omega), predRow l R i hi, anyHeadEv l D hD.len hD.row _ (fun u hu => pre_lt l R l.length i u hu) i hi]
    simp only [Option.bind_some]
    rw [if_pos (by omega), wrap_id (by omega) (by omega)]
    rfl
  · simp only [impl_Prog_heads.l0]
    rw [if_neg (by omega)]
    rfl
end Go.Proofs.Ytkehjekbglajhaa.Pure
