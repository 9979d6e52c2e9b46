/- ExprComp and ExprKeeps: step by step. -/
import Derived.Test.YtkehjekbglajhaaPureExprB
import Derived.Test.YtkehjekbglajhaaPureReach
import Derived.Test.YtkehjekbglajhaaPureLoops
import Derived.Test.YtkehjekbglajhaaF18
import Derived.Test.YtkehjekbglajhaaF18
import Derived.Test.YtkehjekbglajhaaF19
import Derived.Test.YtkehjekbglajhaaF19
namespace Go.Proofs.Ytkehjekbglajhaa.Pure
open Go.RowKit Go.Proofs.Ytkehjekbglajhaa.F Go.Proofs.YtkehjekbglajhaaW.PrintWords Go.Proofs.YtkehjekbglajhaaW.PrintLast

theorem take_map_succ {α β : Type} (f : α → β) (l : List α) (i : Nat) (hi : i < l.length) : (l.take (i + 1)).map f = (l.take i).map f ++ [f l[i]] := by
  rw [List.take_succ_eq_append_getElem hi, List.map_append]
  rfl
/-- Which steps reckon e. -/
def compL (l : List Step) (e0 e1 e2 e3 e4 : Int) : List Bool := l.map fun x => compB x e0 e1 e2 e3 e4
theorem specComp (l : List Step) (hl : l.length ≤ 1048576) (e0 e1 e2 e3 e4 : Int) : Ev (fun k => spec_ExprComp.l0 k [] 0 l e0 e1 e2 e3 e4) (compL l e0 e1 e2 e3 e4) := by
  obtain ⟨s, hs, hL⟩ := leads_to (g := fun k i (s : List Bool) => spec_ExprComp.l0 k s i l e0 e1 e2 e3 e4) (n := l.length) (by omega) (fun i s => s = (l.take i.toNat).map fun x => compB x e0 e1 e2 e3 e4) (fun i s h0 h1 hs => by
    subst hs
    obtain ⟨hi, hg⟩ := step_get l i h0 h1
    refine ⟨_, rfl, Leads.step (fun k => ?_)⟩
    have hlen : ((l.take i.toNat).map fun x => compB x e0 e1 e2 e3 e4).length < 140737488355328 := by rw [List.length_map, List.length_take]; omega
    rw [show (i + 1).toNat = i.toNat + 1 by omega, take_map_succ _ l i.toNat hi]
    simp only [spec_ExprComp.l0, spec_l11Of.f]
    rw [if_pos h1, if_pos h0, hg, wrap_id (x := i + 1) (by omega) (by omega)]
    simp only [Option.bind_some, if_pos hlen]
    unfold compB exprEq
    by_cases h : l[i.toNat].f0 = 1
    · rw [if_pos h, h]
      rfl
    · rw [if_neg h, beq_eq_false_iff_ne.mpr h]
      rfl) [] rfl
  subst hs
  refine hL _ (ev_const 1 (fun k => ?_))
  simp only [spec_ExprComp.l0]
  rw [if_neg (by omega), show ((l.length : Nat) : Int).toNat = l.length by omega, List.take_length]
  rfl
theorem implComp (l : List Step) (hl : l.length ≤ 1048576) (e0 e1 e2 e3 e4 : Int) : impl_Prog_comp.f l e0 e1 e2 e3 e4 = some (compL l e0 e1 e2 e3 e4) := by
  unfold impl_Prog_comp.f eachComp.f
  rw [if_pos (by omega)]
  rfl
/-- Which steps keep e. -/
def keepsL (l : List Step) (e1 e3 : Int) : List Bool := l.map fun x => keepsB x e1 e3
theorem specKeeps (l : List Step) (h : progB l = true) (e0 e1 e2 e3 e4 : Int) : Ev (fun k => spec_ExprKeeps.l0 k [] 0 l e0 e1 e2 e3 e4) (keepsL l e1 e3) := by
  have hle := (good_of l h).le
  obtain ⟨s, hs, hL⟩ := leads_to (g := fun k i (s : List Bool) => spec_ExprKeeps.l0 k s i l e0 e1 e2 e3 e4) (n := l.length) (by omega) (fun i s => s = (l.take i.toNat).map fun x => keepsB x e1 e3) (fun i s h0 h1 hs => by
    subst hs
    obtain ⟨hi, hg⟩ := step_get l i h0 h1
    refine ⟨_, rfl, Leads.step (fun k => ?_)⟩
    have hlen : ((l.take i.toNat).map fun x => keepsB x e1 e3).length < 140737488355328 := by rw [List.length_map, List.length_take]; omega
    have hst : stepB l[i.toNat] l.length = true := by
      unfold progB at h
      simp only [Bool.and_eq_true, List.all_eq_true] at h
      exact h.2 _ (List.getElem_mem hi)
    have hd : setsB l[i.toNat].f0 = true → 0 ≤ l[i.toNat].f1 := by
      intro hs
      unfold stepB at hst
      simp only [Bool.and_eq_true] at hst
      have := hst.1.1.2
      unfold dstB at this
      rw [hs] at this
      simp [varB] at this
      omega
    rw [show (i + 1).toNat = i.toNat + 1 by omega, take_map_succ _ l i.toNat hi]
    simp only [spec_ExprKeeps.l0, spec_l11Sets.f]
    rw [if_pos h1, if_pos h0, hg, wrap_id (x := i + 1) (by omega) (by omega)]
    simp only [if_pos hlen]
    have hk : ∀ x : Step, (setsB x.f0 = true → 0 ≤ x.f1) → ∀ (A : Bool → Option (List Bool)), ((if x.f0 = 1 then some x.f1 else if x.f0 = 2 then some x.f1 else if x.f0 = 3 then some x.f1 else some (-1)).bind fun t => if t < 0 then A true else if t = e1 then A false else A (t != e3)) = A (keepsB x e1 e3) := by
      intro x hx A
      unfold keepsB
      by_cases hb : setsB x.f0 = true
      · have h0 := hx hb
        have he : (if x.f0 = 1 then some x.f1 else if x.f0 = 2 then some x.f1 else if x.f0 = 3 then some x.f1 else some (-1)) = some x.f1 := by
          unfold setsB at hb
          simp at hb
          by_cases a1 : x.f0 = 1
          · rw [if_pos a1]
          · by_cases a2 : x.f0 = 2
            · rw [if_neg a1, if_pos a2]
            · rw [if_neg a1, if_neg a2, if_pos (by omega)]
        rw [he, hb]
        simp only [Option.bind_some, Bool.not_true, Bool.false_or]
        rw [if_neg (by omega)]
        by_cases a1 : x.f1 = e1
        · rw [if_pos a1, a1]
          simp
        · rw [if_neg a1]
          have : (e1 == x.f1) = false := beq_eq_false_iff_ne.mpr (Ne.symm a1)
          rw [this]
          simp only [Bool.false_or]
          congr 1
          rw [Bool.eq_iff_iff]
          simp
          exact ⟨Ne.symm, Ne.symm⟩
      · have he : (if x.f0 = 1 then some x.f1 else if x.f0 = 2 then some x.f1 else if x.f0 = 3 then some x.f1 else some (-1)) = some (-1) := by
          unfold setsB at hb
          simp at hb
          rw [if_neg (by omega), if_neg (by omega), if_neg (by omega)]
        rw [he]
        simp only [Bool.not_eq_true] at hb
        rw [hb]
        simp
    exact hk l[i.toNat] hd (fun b => spec_ExprKeeps.l0 k ((l.take i.toNat).map (fun x => keepsB x e1 e3) ++ [b]) (i + 1) l e0 e1 e2 e3 e4)) [] rfl
  subst hs
  refine hL _ (ev_const 1 (fun k => ?_))
  simp only [spec_ExprKeeps.l0]
  rw [if_neg (by omega), show ((l.length : Nat) : Int).toNat = l.length by omega, List.take_length]
  rfl
theorem implKeeps (l : List Step) (hl : l.length ≤ 1048576) (e0 e1 e2 e3 e4 : Int) : impl_Prog_keeps.f l e0 e1 e2 e3 e4 = some (keepsL l e1 e3) := by
  unfold impl_Prog_keeps.f eachKeeps.f
  rw [if_pos (by omega)]
  rfl
end Go.Proofs.Ytkehjekbglajhaa.Pure
