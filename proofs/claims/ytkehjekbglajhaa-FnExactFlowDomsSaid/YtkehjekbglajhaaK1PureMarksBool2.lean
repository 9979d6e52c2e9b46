/- Marks of rows of rows. -/
import Derived.Test.YtkehjekbglajhaaK1PureMarks
import Derived.Test.YtkehjekbglajhaaK1F21
namespace Go.Proofs.Ytkehjekbglajhaa.Pure
open Go.RowKit Go.Proofs.Ytkehjekbglajhaa.F Go.Proofs.YtkehjekbglajhaaW.PrintWords Go.Proofs.YtkehjekbglajhaaW.PrintLast

def off2Bool (g : List (List Bool)) (i : Nat) : Int := 1 + (((g.take i).map fun s => (s.length : Int)).sum)
theorem sum2Bool (p : List (List Bool)) (hn : ∀ s ∈ p, s.length ≤ 1048576) : 0 ≤ ((p.map fun s => (s.length : Int)).sum) ∧ ((p.map fun s => (s.length : Int)).sum) ≤ (p.length : Int) * 1048576 := by
  induction p with
  | nil => simp
  | cons s p ih =>
    have h1 := ih (fun t ht => hn t (by simp [ht]))
    have h2 := hn s (by simp)
    simp only [List.map_cons, List.sum_cons, List.length_cons]
    omega
theorem off2Bool_succ (p : List (List Bool)) (i : Nat) (hi : i < p.length) : off2Bool p (i + 1) = off2Bool p i + (p[i].length : Int) := by
  unfold off2Bool
  rw [List.take_succ_eq_append_getElem hi, List.map_append, List.sum_append]
  simp
  omega
theorem off2Bool_le (p : List (List Bool)) (hl : p.length ≤ 1048576) (hn : ∀ s ∈ p, s.length ≤ 1048576) (i : Nat) : 1 ≤ off2Bool p i ∧ off2Bool p i ≤ 1152921504606840000 := by
  have h := sum2Bool (p.take i) (fun s hs => hn s (List.mem_of_mem_take hs))
  have h2 : (p.take i).length ≤ p.length := List.length_take_le' _ _
  unfold off2Bool
  omega
def mark2Bool (g : List (List Bool)) : List (List Bool) := (List.range g.length).map fun i => markB (off2Bool g i) (g.getD i []).length
theorem mark2Bool_len (g : List (List Bool)) : (mark2Bool g).length = g.length := by simp [mark2Bool]
theorem rowBool_get (x : List (List Bool)) (i : Nat) (h : i < x.length) : rd_L9 x (i : Int) = x[i] := by
  unfold rd_L9
  rw [List.getD_eq_getElem?_getD, List.getElem?_eq_getElem (by omega)]
  rfl
theorem mark2BoolEv (g : List (List Bool)) (hg : g.length ≤ 1048576 ∧ ∀ x ∈ g, x.length ≤ 1048576) : Ev (fun k => laws_markBoolSS.f k g 1) (off2Bool g g.length, mark2Bool g) := by
  unfold laws_markBoolSS.f
  refine Ev.congr (f := fun k => laws_markBoolSS.l0 k g (off2Bool g 0) 0) (fun k => by rw [show off2Bool g 0 = 1 by simp [off2Bool]]) (ev_mark (g := fun k l x i => laws_markBoolSS.l0 k l x i) g (fun i => markB (off2Bool g i) (g.getD i []).length) (off2Bool g) (fun x0 i hx hi he => ?_) (fun k => ?_))
  · obtain ⟨b0, b1⟩ := off2Bool_le g hg.1 hg.2 i
    have hlen := hg.2 g[i] (List.getElem_mem hi)
    obtain ⟨hi2, he2⟩ := List.getElem?_eq_some_iff.1 he
    have hE := markBoolEvAt (off2Bool g i) g[i] (by omega) (by omega)
    refine Leads.trans (Leads.step (h := fun k => (laws_markBoolS.f k g[i] (off2Bool g i)).bind fun t => laws_markBoolSS.l0 k (x0.set i t.2) t.1 ((i : Int) + 1)) (fun k => ?_)) ?_
    · simp only [laws_markBoolSS.l0]
      rw [if_pos (by omega), if_pos (by omega), rowBool_get x0 i hi2, he2, wrap_id (x := (i : Int) + 1) (by omega) (by omega)]
      simp
    · refine Leads.trans (Leads.bind hE) (Leads.congr (fun k => ?_))
      have hz : g.getD i [] = g[i] := by rw [List.getD_eq_getElem?_getD, List.getElem?_eq_getElem hi]; rfl
      rw [off2Bool_succ g i hi, hz]
  · simp only [laws_markBoolSS.l0]
    rw [if_neg (by simp)]
    rfl
theorem held2BoolEv (g : List (List Bool)) (hg : g.length ≤ 1048576 ∧ ∀ x ∈ g, x.length ≤ 1048576) : Ev (fun k => laws_heldBoolSS.f k (mark2Bool g) 1) (off2Bool g g.length) := by
  unfold laws_heldBoolSS.f
  refine Ev.congr (f := fun k => laws_heldBoolSS.l0 k (mark2Bool g) (off2Bool g 0) 0) (fun k => by rw [show off2Bool g 0 = 1 by simp [off2Bool]]) (ev_held (g := fun k x i => laws_heldBoolSS.l0 k (mark2Bool g) x i) g.length (off2Bool g) (fun i hi => ?_) (fun k => ?_))
  · obtain ⟨b0, b1⟩ := off2Bool_le g hg.1 hg.2 i
    have hlen := hg.2 g[i] (List.getElem_mem hi)
    have hE := heldBoolEvAt (off2Bool g i) g[i].length (by omega) (by omega)
    have hz : g.getD i [] = g[i] := by rw [List.getD_eq_getElem?_getD, List.getElem?_eq_getElem hi]; rfl
    have hr : rd_L9 (mark2Bool g) (i : Int) = markB (off2Bool g i) g[i].length := by
      rw [rowBool_get _ i (by rw [mark2Bool_len]; exact hi)]
      unfold mark2Bool
      rw [List.getElem_map, List.getElem_range, hz]
    refine Leads.trans (Leads.step (h := fun k => (laws_heldBoolS.f k (markB (off2Bool g i) g[i].length) (off2Bool g i)).bind fun t => if t < 0 then some (-1) else laws_heldBoolSS.l0 k (mark2Bool g) t ((i : Int) + 1)) (fun k => ?_)) ?_
    · simp only [laws_heldBoolSS.l0]
      rw [if_pos (by rw [mark2Bool_len]; omega), if_pos (by omega), hr, wrap_id (x := (i : Int) + 1) (by omega) (by omega)]
    · refine Leads.trans (Leads.bind hE) (Leads.congr (fun k => ?_))
      rw [if_neg (by omega), off2Bool_succ g i hi]
  · simp only [laws_heldBoolSS.l0]
    rw [if_neg (by rw [mark2Bool_len]; omega)]
theorem marksBool2 (g : List (List Bool)) (hg : g.length ≤ 1048576 ∧ ∀ x ∈ g, x.length ≤ 1048576) : ∃ m g', 0 ≤ m ∧ g.length = g'.length ∧ Ev (fun k => laws_markBoolSS.f k g 1) (m, g') ∧ Ev (fun k => laws_heldBoolSS.f k g' 1) m :=
  ⟨_, _, by have := (off2Bool_le g hg.1 hg.2 g.length).1; omega, (mark2Bool_len g).symm, mark2BoolEv g hg, held2BoolEv g hg⟩
theorem eqBool2Ev (g : List (List Bool)) (hg : g.length ≤ 1048576 ∧ ∀ x ∈ g, x.length ≤ 1048576) : Ev (fun k => laws_eqBoolSS.f k g g) true := by
  unfold laws_eqBoolSS.f
  refine Ev.congr (f := fun k => laws_eqBoolSS.l0 k g g 0) (fun k => by rw [if_pos rfl]) (ev_held (g := fun k _ i => laws_eqBoolSS.l0 k g g i) g.length (fun _ => 0) (fun i hi => ?_) (fun k => ?_))
  · have hlen := hg.2 g[i] (List.getElem_mem hi)
    have hE := eqBoolEv g[i] (by omega)
    refine Leads.trans (Leads.step (h := fun k => (laws_eqBoolS.f k g[i] g[i]).bind fun t => if t = true then laws_eqBoolSS.l0 k g g ((i : Int) + 1) else some false) (fun k => ?_)) (Leads.trans (Leads.bind hE) (Leads.congr (fun k => by rw [if_pos rfl])))
    simp only [laws_eqBoolSS.l0]
    have hgl := hg.1
    rw [if_pos (by omega), if_pos (by omega), if_pos (by omega), rowBool_get g i hi, wrap_id (x := (i : Int) + 1) (by omega) (by omega)]
  · simp only [laws_eqBoolSS.l0]
    rw [if_neg (by omega)]
end Go.Proofs.Ytkehjekbglajhaa.Pure
