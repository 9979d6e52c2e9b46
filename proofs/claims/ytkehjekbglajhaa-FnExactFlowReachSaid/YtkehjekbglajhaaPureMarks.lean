/- Marks: what is written into a row is read back, and as far as it was written. -/
import Derived.Test.YtkehjekbglajhaaPureLoops
import Derived.Test.YtkehjekbglajhaaPureArgs
import Derived.Test.YtkehjekbglajhaaF7
import Derived.Test.YtkehjekbglajhaaF10
import Derived.Test.YtkehjekbglajhaaF10
import Derived.Test.YtkehjekbglajhaaF10
import Derived.Test.YtkehjekbglajhaaF12
import Derived.Test.YtkehjekbglajhaaF7
import Derived.Test.YtkehjekbglajhaaF5
namespace Go.Proofs.Ytkehjekbglajhaa.Pure
open Go.RowKit Go.Proofs.Ytkehjekbglajhaa.F Go.Proofs.YtkehjekbglajhaaW.PrintWords Go.Proofs.YtkehjekbglajhaaW.PrintLast

theorem marked_small : ∀ (ls : List Nat), (∀ n ∈ ls, n ≤ big) → marked ls ≤ (ls.length : Int) * 1048583
  | [], _ => by simp [marked]
  | n :: ls, h => by
    have h1 := marked_small ls (fun m hm => h m (by simp [hm]))
    have h2 := h n (by simp)
    show 7 + (n : Int) + marked ls ≤ _
    simp only [List.length_cons]
    unfold big at h2
    omega
/-- How far the argument's copy is marked. -/
theorem mk_small (l : List LStep) (hb : l.length ≤ big) (hn : ∀ s ∈ l, s.f5.length ≤ big) : ∃ mk : Int, mk = 1 + marked ((l.map conv).map fun x => x.f5.length) ∧ mk < 1152921504606846976 ∧ (((l.map conv).length : Nat) : Int) < 1152921504606846976 ∧ 0 ≤ mk := by
  have h := marked_small ((l.map conv).map fun x => x.f5.length) (fun n hn' => by
    obtain ⟨s, hs, rfl⟩ := List.mem_map.1 hn'
    obtain ⟨s', hs', rfl⟩ := List.mem_map.1 hs
    exact hn s' hs')
  have h0 := marked_pos ((l.map conv).map fun x => x.f5.length)
  have hl : ((l.map conv).map fun x => x.f5.length).length = l.length := by simp
  rw [hl] at h
  unfold big at hb
  refine ⟨_, rfl, by omega, by simp; omega, by omega⟩
/-- The marks of a row of Bools. -/
def markB (n : Nat) : List Bool := (List.range n).map fun j : Nat => (Int.tmod (1 + (j : Int)) 3 == 0)
theorem markB_len (n : Nat) : (markB n).length = n := by simp [markB]
theorem markBoolEv (l : List Bool) (hl : l.length ≤ 1152921504606846976) : Ev (fun k => laws_markBoolS.f k l 1) (1 + (l.length : Int), markB l.length) := by
  unfold laws_markBoolS.f
  refine Ev.congr (f := fun k => (fun k (l : List Bool) (i : Int) => laws_markBoolS.l0 k l (1 + i) i) k l 0) (fun k => rfl) (ev_fill (g := fun k (l : List Bool) (i : Int) => laws_markBoolS.l0 k l (1 + i) i) (n := l.length) (fun j : Nat => (Int.tmod (1 + (j : Int)) 3 == 0)) (fun k l' i h0 h1 => ?_) (fun k => ?_) l rfl)
  · simp only [laws_markBoolS.l0]
    rw [if_pos (by omega), if_pos (by omega), wrap_id (by omega) (by omega), wrap_id (by omega) (by omega), show 1 + (i : Int) + 1 = 1 + (i + 1) by omega]
    simp
  · simp only [laws_markBoolS.l0]
    rw [if_neg (by simp)]
    rfl
theorem rdOf_markB (n : Nat) (i : Int) (h0 : 0 ≤ i) (h1 : i < n) : rdOf false (markB n) i = (Int.tmod (1 + i) 3 == 0) := by
  unfold rdOf markB
  rw [List.getD_eq_getElem?_getD, List.getElem?_map, List.getElem?_range (by omega)]
  simp [show ((i.toNat : Nat) : Int) = i by omega]
theorem heldBoolEv (n : Nat) (hl : n ≤ 1152921504606846976) : Ev (fun k => laws_heldBoolS.f k (markB n) 1) (1 + (n : Int)) := by
  unfold laws_heldBoolS.f
  refine Ev.congr (f := fun k => (fun k (i : Int) => laws_heldBoolS.l0 k (markB n) (1 + i) i) k 0) (fun k => rfl) (ev_count (g := fun k (i : Int) => laws_heldBoolS.l0 k (markB n) (1 + i) i) (n := n) (by omega) (fun k i h0 h1 => ?_) (fun k => ?_))
  · simp only [laws_heldBoolS.l0]
    rw [if_pos (by rw [markB_len]; omega), if_pos (by omega), rdOf_markB n i h0 h1, wrap_id (by omega) (by omega), wrap_id (by omega) (by omega), show 1 + i + 1 = 1 + (i + 1) by omega]
    simp
  · simp only [laws_heldBoolS.l0]
    rw [if_neg (by rw [markB_len]; omega)]
theorem heldBoolEvG (g : List Bool) (hl : g.length ≤ 1152921504606846976) : Ev (fun k => laws_heldBoolS.f k (markB g.length) 1) (1 + (g.length : Int)) := heldBoolEv g.length hl
theorem markBoolG_len (g : List Bool) : (markB g.length).length = g.length := markB_len _
theorem eqBoolEv (l : List Bool) (hl : l.length ≤ 1152921504606846976) : Ev (fun k => laws_eqBoolS.f k l l) true := by
  unfold laws_eqBoolS.f
  refine Ev.congr (f := fun k => laws_eqBoolS.l0 k l l 0) (fun k => by rw [if_pos rfl]) (ev_count (g := fun k (i : Int) => laws_eqBoolS.l0 k l l i) (n := l.length) (by omega) (fun k i h0 h1 => ?_) (fun k => ?_))
  · simp only [laws_eqBoolS.l0]
    rw [if_pos h1, if_pos h0, if_pos h1, wrap_id (by omega) (by omega)]
    simp
  · simp only [laws_eqBoolS.l0]
    rw [if_neg (by omega)]
/-- The marks of a row of numbers. -/
def markI (a : Int) (n : Nat) : List Int := (List.range n).map fun j : Nat => a + (j : Int)
theorem markI_len (a : Int) (n : Nat) : (markI a n).length = n := by simp [markI]
theorem markIntEvAt (a : Int) (l : List Int) (ha : 0 ≤ a) (hl : a + l.length ≤ 4611686018427387904) : Ev (fun k => laws_markIntS.f k l a) (a + (l.length : Int), markI a l.length) := by
  unfold laws_markIntS.f
  refine Ev.congr (f := fun k => (fun k (l : List Int) (i : Int) => laws_markIntS.l0 k l (a + i) i) k l 0) (fun k => by simp) (ev_fill (g := fun k (l : List Int) (i : Int) => laws_markIntS.l0 k l (a + i) i) (n := l.length) (fun j : Nat => a + (j : Int)) (fun k l' i h0 h1 => ?_) (fun k => ?_) l rfl)
  · simp only [laws_markIntS.l0]
    rw [if_pos (by omega), if_pos (by omega), wrap_id (by omega) (by omega), wrap_id (by omega) (by omega), show a + (i : Int) + 1 = a + (i + 1) by omega]
    simp
  · simp only [laws_markIntS.l0]
    rw [if_neg (by simp)]
    rfl
theorem rd_markI (a : Int) (n : Nat) (i : Int) (h0 : 0 ≤ i) (h1 : i < n) : rd (markI a n) i = a + i := by
  unfold rd markI
  rw [List.getD_eq_getElem?_getD, List.getElem?_map, List.getElem?_range (by omega)]
  simp [show ((i.toNat : Nat) : Int) = i by omega]
theorem heldIntEvAt (a : Int) (n : Nat) (ha : 0 ≤ a) (hl : a + n ≤ 4611686018427387904) : Ev (fun k => laws_heldIntS.f k (markI a n) a) (a + (n : Int)) := by
  unfold laws_heldIntS.f
  refine Ev.congr (f := fun k => (fun k (i : Int) => laws_heldIntS.l0 k (markI a n) (a + i) i) k 0) (fun k => by simp) (ev_count (g := fun k (i : Int) => laws_heldIntS.l0 k (markI a n) (a + i) i) (n := n) (by omega) (fun k i h0 h1 => ?_) (fun k => ?_))
  · simp only [laws_heldIntS.l0]
    rw [if_pos (by rw [markI_len]; omega), if_pos (by omega), rd_markI a n i h0 h1, if_pos rfl, wrap_id (by omega) (by omega), wrap_id (by omega) (by omega), show a + i + 1 = a + (i + 1) by omega]
  · simp only [laws_heldIntS.l0]
    rw [if_neg (by rw [markI_len]; omega)]
theorem markIntEv (l : List Int) (hl : l.length ≤ 1152921504606846976) : Ev (fun k => laws_markIntS.f k l 1) (1 + (l.length : Int), markI 1 l.length) := markIntEvAt 1 l (by decide) (by omega)
theorem heldIntEv (n : Nat) (hl : n ≤ 1152921504606846976) : Ev (fun k => laws_heldIntS.f k (markI 1 n) 1) (1 + (n : Int)) := heldIntEvAt 1 n (by decide) (by omega)
theorem heldIntEvG (g : List Int) (hl : g.length ≤ 1152921504606846976) : Ev (fun k => laws_heldIntS.f k (markI 1 g.length) 1) (1 + (g.length : Int)) := heldIntEv g.length hl
theorem markIntG_len (g : List Int) : (markI 1 g.length).length = g.length := markI_len _ _
theorem eqIntEv (l : List Int) (hl : l.length ≤ 1152921504606846976) : Ev (fun k => laws_eqIntS.f k l l) true := by
  unfold laws_eqIntS.f
  refine Ev.congr (f := fun k => laws_eqIntS.l0 k l l 0) (fun k => by rw [if_pos rfl]) (ev_count (g := fun k (i : Int) => laws_eqIntS.l0 k l l i) (n := l.length) (by omega) (fun k i h0 h1 => ?_) (fun k => ?_))
  · simp only [laws_eqIntS.l0]
    rw [if_pos h1, if_pos h0, if_pos h1, wrap_id (by omega) (by omega)]
    simp
  · simp only [laws_eqIntS.l0]
    rw [if_neg (by omega)]
end Go.Proofs.Ytkehjekbglajhaa.Pure
