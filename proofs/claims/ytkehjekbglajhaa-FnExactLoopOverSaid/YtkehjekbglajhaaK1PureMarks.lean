/- Marks: what is written into a row is read back, and as far as it was written. -/
import Derived.Test.YtkehjekbglajhaaK1PureLoops
import Derived.Test.YtkehjekbglajhaaK1PureArgs
import Derived.Test.YtkehjekbglajhaaK1F7
import Derived.Test.YtkehjekbglajhaaK1F10
import Derived.Test.YtkehjekbglajhaaK1F12
import Derived.Test.YtkehjekbglajhaaK1F5
namespace Go.Proofs.Ytkehjekbglajhaa.Pure
open Go.RowKit Go.Proofs.Ytkehjekbglajhaa.F Go.Proofs.YtkehjekbglajhaaW.PrintWords Go.Proofs.YtkehjekbglajhaaW.PrintLast

/-- The marks of a row of numbers. -/
def markI (a : Int) (n : Nat) : List Int := (List.range n).map fun j : Nat => a + (j : Int)
theorem markI_len (a : Int) (n : Nat) : (markI a n).length = n := by simp [markI]
theorem rd_markI (a : Int) (n : Nat) (i : Int) (h0 : 0 ≤ i) (h1 : i < n) : rd (markI a n) i = a + i := by
  unfold rd markI
  rw [List.getD_eq_getElem?_getD, List.getElem?_map, List.getElem?_range (by omega)]
  simp [show ((i.toNat : Nat) : Int) = i by omega]
theorem markIntEvAt (a : Int) (l : List Int) (ha : 0 ≤ a) (hl : a + l.length ≤ 4611686018427387904) : Ev (fun k => laws_markIntS.f k l a) (a + (l.length : Int), markI a l.length) := by
  unfold laws_markIntS.f
  refine Ev.congr (f := fun k => (fun k (l : List Int) (i : Int) => laws_markIntS.l0 k l (a + i) i) k l 0) (fun k => by simp) (ev_fill (g := fun k (l : List Int) (i : Int) => laws_markIntS.l0 k l (a + i) i) (n := l.length) (fun j : Nat => a + (j : Int)) (fun k l' i h0 h1 => ?_) (fun k => ?_) l rfl)
  · simp only [laws_markIntS.l0]
    rw [if_pos (by omega), if_pos (by omega), wrap_id (by omega) (by omega), wrap_id (by omega) (by omega), show a + (i : Int) + 1 = a + (i + 1) by omega]
    simp
  · simp only [laws_markIntS.l0]
    rw [if_neg (by simp)]
    rfl
/-- The argument's copy is marked. -/
theorem stepMark (k : Nat) (x0 : List Step) (x1 : Int) (i : Nat) (hi : i < x0.length) (hb : i ≤ big) (h0 : 0 ≤ x1) (h1 : x1 ≤ 4611686018427380000) : laws_markStepS.l0 (k + 1) x0 x1 (i : Int) =
    (laws_markIntS.f k x0[i].f5 (x1 + 7)).bind fun t => laws_markStepS.l0 k (x0.set i ⟨x1, x1 + 1, x1 + 2, ⟨x1 + 3, x1 + 4⟩, ⟨x1 + 5, x1 + 6⟩, t.2⟩) t.1 ((i : Int) + 1) := by
  simp only [laws_markStepS.l0]
  obtain ⟨_, hg⟩ := step_get x0 (i : Int) (by omega) (by omega)
  unfold big at hb
  rw [if_pos (by omega), if_pos (by omega), hg, wrap_id (x := x1 + 1) (by omega) (by omega), show x1 + 1 + 1 = x1 + 2 by omega, wrap_id (x := x1 + 2) (by omega) (by omega), show x1 + 2 + 1 = x1 + 3 by omega, wrap_id (x := x1 + 3) (by omega) (by omega), show x1 + 3 + 1 = x1 + 4 by omega, wrap_id (x := x1 + 4) (by omega) (by omega), show x1 + 4 + 1 = x1 + 5 by omega, wrap_id (x := x1 + 5) (by omega) (by omega), show x1 + 5 + 1 = x1 + 6 by omega, wrap_id (x := x1 + 6) (by omega) (by omega), show x1 + 6 + 1 = x1 + 7 by omega, wrap_id (x := x1 + 7) (by omega) (by omega), wrap_id (x := (i : Int) + 1) (by omega) (by omega)]
  simp
/-- How far the marks have come at element i. -/
def offP (p : List Step) (i : Nat) : Int := 1 + (((p.take i).map fun s => 7 + (s.f5.length : Int)).sum)
theorem sum_le (p : List Step) (hn : ∀ s ∈ p, s.f5.length ≤ big) : 0 ≤ ((p.map fun s => 7 + (s.f5.length : Int)).sum) ∧ ((p.map fun s => 7 + (s.f5.length : Int)).sum) ≤ (p.length : Int) * 1048583 := by
  induction p with
  | nil => simp
  | cons s p ih =>
    have h1 := ih (fun t ht => hn t (by simp [ht]))
    have h2 := hn s (by simp)
    unfold big at h2
    simp only [List.map_cons, List.sum_cons, List.length_cons]
    omega
theorem offP_succ (p : List Step) (i : Nat) (hi : i < p.length) : offP p (i + 1) = offP p i + 7 + (p[i].f5.length : Int) := by
  unfold offP
  rw [List.take_succ_eq_append_getElem hi, List.map_append, List.sum_append]
  simp
  omega
theorem offP_le (p : List Step) (hl : p.length ≤ big) (hn : ∀ s ∈ p, s.f5.length ≤ big) (i : Nat) : 1 ≤ offP p i ∧ offP p i ≤ 1152921504606840000 := by
  have h := sum_le (p.take i) (fun s hs => hn s (List.mem_of_mem_take hs))
  have h2 : (p.take i).length ≤ p.length := List.length_take_le' _ _
  unfold offP
  unfold big at hl
  omega
/-- Step i with its marks. -/
def markedStep (p : List Step) (i : Nat) : Step := ⟨offP p i, offP p i + 1, offP p i + 2, ⟨offP p i + 3, offP p i + 4⟩, ⟨offP p i + 5, offP p i + 6⟩, markI (offP p i + 7) (p.getD i z68).f5.length⟩
def markP (p : List Step) : List Step := (List.range p.length).map (markedStep p)
theorem markP_len (p : List Step) : (markP p).length = p.length := by simp [markP]
theorem markProgEv' (p : List Step) (hl : p.length ≤ big) (hn : ∀ s ∈ p, s.f5.length ≤ big) : Ev (fun k => laws_markProg.f k p 1) (offP p p.length, markP p) := by
  unfold laws_markProg.f laws_markStepS.f
  refine Ev.congr (f := fun k => laws_markStepS.l0 k p (offP p 0) 0) (fun k => by rw [show offP p 0 = 1 by simp [offP]]) (ev_mark (g := fun k l x i => laws_markStepS.l0 k l x i) p (markedStep p) (offP p) (fun x0 i hx hi he => ?_) (fun k => ?_))
  · obtain ⟨b0, b1⟩ := offP_le p hl hn i
    have hlen := hn p[i] (List.getElem_mem hi)
    obtain ⟨hi2, he2⟩ := List.getElem?_eq_some_iff.1 he
    unfold big at hlen
    have hE := markIntEvAt (offP p i + 7) p[i].f5 (by omega) (by omega)
    refine Leads.trans (Leads.step (fun k => stepMark k x0 (offP p i) i hi2 (by omega) (by omega) (by omega))) ?_
    rw [he2]
    refine Leads.trans (Leads.bind hE) (Leads.congr (fun k => ?_))
    rw [offP_succ p i hi]
    have hz : p.getD i z68 = p[i] := by rw [List.getD_eq_getElem?_getD, List.getElem?_eq_getElem hi]; rfl
    unfold markedStep
    rw [hz]
  · simp only [laws_markStepS.l0]
    rw [if_neg (by simp)]
    rfl
theorem markProgEv (p : List Step) (hl : p.length ≤ big) (hn : ∀ s ∈ p, s.f5.length ≤ big) : ∃ mk p', 0 ≤ mk ∧ Ev (fun k => laws_markProg.f k p 1) (mk, p') := ⟨_, _, by have := offP_le p hl hn p.length; omega, markProgEv' p hl hn⟩
/-- The marks of a row of Bools. -/
def markB (a : Int) (n : Nat) : List Bool := (List.range n).map fun j : Nat => (Int.tmod (a + (j : Int)) 3 == 0)
theorem markB_len (a : Int) (n : Nat) : (markB a n).length = n := by simp [markB]
theorem markBoolEvAt (a : Int) (l : List Bool) (ha : 0 ≤ a) (hl : a + l.length ≤ 4611686018427387904) : Ev (fun k => laws_markBoolS.f k l a) (a + (l.length : Int), markB a l.length) := by
  unfold laws_markBoolS.f
  refine Ev.congr (f := fun k => (fun k (l : List Bool) (i : Int) => laws_markBoolS.l0 k l (a + i) i) k l 0) (fun k => by simp) (ev_fill (g := fun k (l : List Bool) (i : Int) => laws_markBoolS.l0 k l (a + i) i) (n := l.length) (fun j : Nat => (Int.tmod (a + (j : Int)) 3 == 0)) (fun k l' i h0 h1 => ?_) (fun k => ?_) l rfl)
  · simp only [laws_markBoolS.l0]
    rw [if_pos (by omega), if_pos (by omega), wrap_id (by omega) (by omega), wrap_id (by omega) (by omega), show a + (i : Int) + 1 = a + (i + 1) by omega]
    simp
  · simp only [laws_markBoolS.l0]
    rw [if_neg (by simp)]
    rfl
theorem rdOf_markB (a : Int) (n : Nat) (i : Int) (h0 : 0 ≤ i) (h1 : i < n) : rdOf false (markB a n) i = (Int.tmod (a + i) 3 == 0) := by
  unfold rdOf markB
  rw [List.getD_eq_getElem?_getD, List.getElem?_map, List.getElem?_range (by omega)]
  simp [show ((i.toNat : Nat) : Int) = i by omega]
theorem heldBoolEvAt (a : Int) (n : Nat) (ha : 0 ≤ a) (hl : a + n ≤ 4611686018427387904) : Ev (fun k => laws_heldBoolS.f k (markB a n) a) (a + (n : Int)) := by
  unfold laws_heldBoolS.f
  refine Ev.congr (f := fun k => (fun k (i : Int) => laws_heldBoolS.l0 k (markB a n) (a + i) i) k 0) (fun k => by simp) (ev_count (g := fun k (i : Int) => laws_heldBoolS.l0 k (markB a n) (a + i) i) (n := n) (by omega) (fun k i h0 h1 => ?_) (fun k => ?_))
  · simp only [laws_heldBoolS.l0]
    rw [if_pos (by rw [markB_len]; omega), if_pos (by omega), rdOf_markB a n i h0 h1, wrap_id (by omega) (by omega), wrap_id (by omega) (by omega), show a + i + 1 = a + (i + 1) by omega]
    simp
  · simp only [laws_heldBoolS.l0]
    rw [if_neg (by rw [markB_len]; omega)]
theorem marksBool (g : List Bool) (hl : g.length ≤ 1152921504606846976) : ∃ m g', 0 ≤ m ∧ g.length = g'.length ∧ Ev (fun k => laws_markBoolS.f k g 1) (m, g') ∧ Ev (fun k => laws_heldBoolS.f k g' 1) m :=
  ⟨_, _, by omega, (markB_len 1 g.length).symm, markBoolEvAt 1 g (by decide) (by omega), heldBoolEvAt 1 g.length (by decide) (by omega)⟩
theorem eqBoolEv (l : List Bool) (hl : l.length ≤ 1152921504606846976) : Ev (fun k => laws_eqBoolS.f k l l) true := by
  unfold laws_eqBoolS.f
  refine Ev.congr (f := fun k => laws_eqBoolS.l0 k l l 0) (fun k => by rw [if_pos rfl]) (ev_count (g := fun k (i : Int) => laws_eqBoolS.l0 k l l i) (n := l.length) (by omega) (fun k i h0 h1 => ?_) (fun k => ?_))
  · simp only [laws_eqBoolS.l0]
    rw [if_pos h1, if_pos h0, if_pos h1, wrap_id (by omega) (by omega)]
    simp
  · simp only [laws_eqBoolS.l0]
    rw [if_neg (by omega)]
theorem heldIntEvAt (a : Int) (n : Nat) (ha : 0 ≤ a) (hl : a + n ≤ 4611686018427387904) : Ev (fun k => laws_heldIntS.f k (markI a n) a) (a + (n : Int)) := by
  unfold laws_heldIntS.f
  refine Ev.congr (f := fun k => (fun k (i : Int) => laws_heldIntS.l0 k (markI a n) (a + i) i) k 0) (fun k => by simp) (ev_count (g := fun k (i : Int) => laws_heldIntS.l0 k (markI a n) (a + i) i) (n := n) (by omega) (fun k i h0 h1 => ?_) (fun k => ?_))
  · simp only [laws_heldIntS.l0]
    rw [if_pos (by rw [markI_len]; omega), if_pos (by omega), rd_markI a n i h0 h1, if_pos rfl, wrap_id (by omega) (by omega), wrap_id (by omega) (by omega), show a + i + 1 = a + (i + 1) by omega]
  · simp only [laws_heldIntS.l0]
    rw [if_neg (by rw [markI_len]; omega)]
theorem marksInt (g : List Int) (hl : g.length ≤ 1152921504606846976) : ∃ m g', 0 ≤ m ∧ g.length = g'.length ∧ Ev (fun k => laws_markIntS.f k g 1) (m, g') ∧ Ev (fun k => laws_heldIntS.f k g' 1) m :=
  ⟨_, _, by omega, (markI_len 1 g.length).symm, markIntEvAt 1 g (by decide) (by omega), heldIntEvAt 1 g.length (by decide) (by omega)⟩
theorem eqIntEv (l : List Int) (hl : l.length ≤ 1152921504606846976) : Ev (fun k => laws_eqIntS.f k l l) true := by
  unfold laws_eqIntS.f
  refine Ev.congr (f := fun k => laws_eqIntS.l0 k l l 0) (fun k => by rw [if_pos rfl]) (ev_count (g := fun k (i : Int) => laws_eqIntS.l0 k l l i) (n := l.length) (by omega) (fun k i h0 h1 => ?_) (fun k => ?_))
  · simp only [laws_eqIntS.l0]
    rw [if_pos h1, if_pos h0, if_pos h1, wrap_id (by omega) (by omega)]
    simp
  · simp only [laws_eqIntS.l0]
    rw [if_neg (by omega)]
end Go.Proofs.Ytkehjekbglajhaa.Pure
