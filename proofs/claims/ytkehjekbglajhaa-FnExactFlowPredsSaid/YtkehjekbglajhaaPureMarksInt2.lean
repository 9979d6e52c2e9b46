/- Marks of rows of rows. -/
import Derived.Test.YtkehjekbglajhaaPureMarks
import Derived.Test.YtkehjekbglajhaaF16
import Derived.Test.YtkehjekbglajhaaF16
import Derived.Test.YtkehjekbglajhaaF16
namespace Go.Proofs.Ytkehjekbglajhaa.Pure
open Go.RowKit Go.Proofs.Ytkehjekbglajhaa.F Go.Proofs.YtkehjekbglajhaaW.PrintWords Go.Proofs.YtkehjekbglajhaaW.PrintLast

def off2Int (g : List (List Int)) (i : Nat) : Int := 1 + (((g.take i).map fun s => (s.length : Int)).sum)
theorem sum2Int (p : List (List Int)) (hn : ∀ s ∈ p, s.length ≤ 1048576) : 0 ≤ ((p.map fun s => (s.length : Int)).sum) ∧ ((p.map fun s => (s.length : Int)).sum) ≤ (p.length : Int) * 1048576 := by
  induction p with
  | nil => simp
  | cons s p ih =>
    have h1 := ih (fun t ht => hn t (by simp [ht]))
    have h2 := hn s (by simp)
    simp only [List.map_cons, List.sum_cons, List.length_cons]
    omega
theorem off2Int_succ (p : List (List Int)) (i : Nat) (hi : i < p.length) : off2Int p (i + 1) = off2Int p i + (p[i].length : Int) := by
  unfold off2Int
  rw [List.take_succ_eq_append_getElem hi, List.map_append, List.sum_append]
  simp
  omega
theorem off2Int_le (p : List (List Int)) (hl : p.length ≤ 1048576) (hn : ∀ s ∈ p, s.length ≤ 1048576) (i : Nat) : 1 ≤ off2Int p i ∧ off2Int p i ≤ 1152921504606840000 := by
  have h := sum2Int (p.take i) (fun s hs => hn s (List.mem_of_mem_take hs))
  have h2 : (p.take i).length ≤ p.length := List.length_take_le' _ _
  unfold off2Int
  omega
def mark2Int (g : List (List Int)) : List (List Int) := (List.range g.length).map fun i => markI (off2Int g i) (g.getD i []).length
theorem mark2Int_len (g : List (List Int)) : (mark2Int g).length = g.length := by simp [mark2Int]
theorem rowInt_get (x : List (List Int)) (i : Nat) (h : i < x.length) : rd_L2 x (i : Int) = x[i] := by
  unfold rd_L2
  rw [List.getD_eq_getElem?_getD, List.getElem?_eq_getElem (by omega)]
  rfl
theorem mark2IntEv (g : List (List Int)) (hg : g.length ≤ 1048576 ∧ ∀ x ∈ g, x.length ≤ 1048576) : Ev (fun k => laws_markIntSS.f k g 1) (off2Int g g.length, mark2Int g) := by
  unfold laws_markIntSS.f
  refine Ev.congr (f := fun k => laws_markIntSS.l0 k g (off2Int g 0) 0) (fun k => by rw [show off2Int g 0 = 1 by simp [off2Int]]) (ev_mark (g := fun k l x i => laws_markIntSS.l0 k l x i) g (fun i => markI (off2Int g i) (g.getD i []).length) (off2Int g) (fun x0 i hx hi he => ?_) (fun k => ?_))
  · obtain ⟨b0, b1⟩ := off2Int_le g hg.1 hg.2 i
    have hlen := hg.2 g[i] (List.getElem_mem hi)
    obtain ⟨hi2, he2⟩ := List.getElem?_eq_some_iff.1 he
    have hE := markIntEvAt (off2Int g i) g[i] (by omega) (by omega)
    refine Leads.trans (Leads.step (h := fun k => (laws_markIntS.f k g[i] (off2Int g i)).bind fun t => laws_markIntSS.l0 k (x0.set i t.2) t.1 ((i : Int) + 1)) (fun k => ?_)) ?_
    · simp only [laws_markIntSS.l0]
      rw [if_pos (by omega), if_pos (by omega), rowInt_get x0 i hi2, he2, wrap_id (x := (i : Int) + 1) (by omega) (by omega)]
      simp
    · refine Leads.trans (Leads.bind hE) (Leads.congr (fun k => ?_))
      have hz : g.getD i [] = g[i] := by rw [List.getD_eq_getElem?_getD, List.getElem?_eq_getElem hi]; rfl
      rw [off2Int_succ g i hi, hz]
  · simp only [laws_markIntSS.l0]
    rw [if_neg (by simp)]
    rfl
theorem held2IntEv (g : List (List Int)) (hg : g.length ≤ 1048576 ∧ ∀ x ∈ g, x.length ≤ 1048576) : Ev (fun k => laws_heldIntSS.f k (mark2Int g) 1) (off2Int g g.length) := by
  unfold laws_heldIntSS.f
  refine Ev.congr (f := fun k => laws_heldIntSS.l0 k (mark2Int g) (off2Int g 0) 0) (fun k => by rw [show off2Int g 0 = 1 by simp [off2Int]]) (ev_held (g := fun k x i => laws_heldIntSS.l0 k (mark2Int g) x i) g.length (off2Int g) (fun i hi => ?_) (fun k => ?_))
  · obtain ⟨b0, b1⟩ := off2Int_le g hg.1 hg.2 i
    have hlen := hg.2 g[i] (List.getElem_mem hi)
    have hE := heldIntEvAt (off2Int g i) g[i].length (by omega) (by omega)
    have hz : g.getD i [] = g[i] := by rw [List.getD_eq_getElem?_getD, List.getElem?_eq_getElem hi]; rfl
    have hr : rd_L2 (mark2Int g) (i : Int) = markI (off2Int g i) g[i].length := by
      rw [rowInt_get _ i (by rw [mark2Int_len]; exact hi)]
      unfold mark2Int
      rw [List.getElem_map, List.getElem_range, hz]
    refine Leads.trans (Leads.step (h := fun k => (laws_heldIntS.f k (markI (off2Int g i) g[i].length) (off2Int g i)).bind fun t => if t < 0 then some (-1) else laws_heldIntSS.l0 k (mark2Int g) t ((i : Int) + 1)) (fun k => ?_)) ?_
    · simp only [laws_heldIntSS.l0]
      rw [if_pos (by rw [mark2Int_len]; omega), if_pos (by omega), hr, wrap_id (x := (i : Int) + 1) (by omega) (by omega)]
    · refine Leads.trans (Leads.bind hE) (Leads.congr (fun k => ?_))
      rw [if_neg (by omega), off2Int_succ g i hi]
  · simp only [laws_heldIntSS.l0]
    rw [if_neg (by rw [mark2Int_len]; omega)]
theorem marksInt2 (g : List (List Int)) (hg : g.length ≤ 1048576 ∧ ∀ x ∈ g, x.length ≤ 1048576) : ∃ m g', 0 ≤ m ∧ g.length = g'.length ∧ Ev (fun k => laws_markIntSS.f k g 1) (m, g') ∧ Ev (fun k => laws_heldIntSS.f k g' 1) m :=
  ⟨_, _, by have := (off2Int_le g hg.1 hg.2 g.length).1; omega, (mark2Int_len g).symm, mark2IntEv g hg, held2IntEv g hg⟩
theorem eqInt2Ev (g : List (List Int)) (hg : g.length ≤ 1048576 ∧ ∀ x ∈ g, x.length ≤ 1048576) : Ev (fun k => laws_eqIntSS.f k g g) true := by
  unfold laws_eqIntSS.f
  refine Ev.congr (f := fun k => laws_eqIntSS.l0 k g g 0) (fun k => by rw [if_pos rfl]) (ev_held (g := fun k _ i => laws_eqIntSS.l0 k g g i) g.length (fun _ => 0) (fun i hi => ?_) (fun k => ?_))
  · have hlen := hg.2 g[i] (List.getElem_mem hi)
    have hE := eqIntEv g[i] (by omega)
    refine Leads.trans (Leads.step (h := fun k => (laws_eqIntS.f k g[i] g[i]).bind fun t => if t = true then laws_eqIntSS.l0 k g g ((i : Int) + 1) else some false) (fun k => ?_)) (Leads.trans (Leads.bind hE) (Leads.congr (fun k => by rw [if_pos rfl])))
    simp only [laws_eqIntSS.l0]
    have hgl := hg.1
    rw [if_pos (by omega), if_pos (by omega), if_pos (by omega), rowInt_get g i hi, wrap_id (x := (i : Int) + 1) (by omega) (by omega)]
  · simp only [laws_eqIntSS.l0]
    rw [if_neg (by omega)]
end Go.Proofs.Ytkehjekbglajhaa.Pure
