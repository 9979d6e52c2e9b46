/- Rows of a call's own that lie in a window of blocks: what is made elsewhere, or written into another window, says nothing of them. -/
import Derived.Test.YtkehjekbglajhaaK1F0
namespace Go.Proofs.Ytkehjekbglajhaa.Pure
open Go.RowKit Go.Proofs.Ytkehjekbglajhaa.F Go.Proofs.YtkehjekbglajhaaW.PrintWords Go.Proofs.YtkehjekbglajhaaW.PrintLast

theorem blk_old {W W' : World} {g a b : Nat} {o : Obj} (h : W.heap[g]? = some o) (hk : Kept W W' (fun k => a ≤ k ∧ k < b)) (hd : g < a) : W'.heap[g]? = some o :=
  blk_kept h hk (fun hs => by omega)
theorem kept_set {W W' : World} {g j : Nat} {v : Value} (hw : W' = W.setCell ⟨g, j, none⟩ v) : Kept W W' (fun k => g ≤ k ∧ k < g + 1) := by
  rw [hw]
  exact Kept.setCell (Kept.refl _ _) (.inl ⟨Nat.le_refl _, Nat.lt_succ_self _⟩) v
theorem below_put {w W W' : World} {g j : Nat} {v : Value} (hw : W' = W.setCell ⟨g, j, none⟩ v) (h : Below w.heap.size w W) (hg : w.heap.size ≤ g) : Below w.heap.size w W' := by
  rw [hw]
  exact below_set h hg
/-- An own row whose blocks are those from a on and under b. -/
structure RW {α : Type} (d : Kd α) (e s : Nat) (w : World) (v : Value) (xs : List α) (a b : Nat) : Prop where
  row : Kd.R d e w s (fun k => a ≤ k ∧ k < b) v xs
  le : b ≤ w.heap.size
  ab : a ≤ b
  sa : s ≤ a
section
variable {α : Type} {d : Kd α} {e s a b a' b' : Nat} {w w0 w1 : World} {v : Value} {xs : List α}
theorem RW.of (h : Kd.R d e w1 w.heap.size (fun _ => True) v xs) (hb : Below w.heap.size w w1) (hB : Below w0.heap.size w0 w) : RW d e w0.heap.size w1 v xs w.heap.size w1.heap.size :=
  ⟨Kd.R_lower (Kd.R_mono (Kd.R_bound h) (fun _ hk => ⟨hk.2.1, hk.2.2.1⟩)) hB.size, Nat.le_refl _, hb.size, hB.size⟩
theorem RW.below (h : RW d e s w v xs a b) (hb : Below w.heap.size w w1) : RW d e s w1 v xs a b := ⟨Kd.R_below h.row hb, Nat.le_trans h.le hb.size, h.ab, h.sa⟩
theorem RW.keep (h : RW d e s w v xs a b) (hk : Kept w w1 (fun k => a' ≤ k ∧ k < b')) (hd : b ≤ a' ∨ b' ≤ a) : RW d e s w1 v xs a b :=
  ⟨Kd.R_step h.row (fun k hw hlt => hk.2 k hlt (by omega)), Nat.le_trans h.le hk.1, h.ab, h.sa⟩
theorem RW.reads (h : RW d e s w v xs a b) : ∃ A c, v = .slice A xs.length c ∧ xs.length ≤ c ∧ d.C w A xs.length xs := Kd.R_reads h.row
theorem RW.slice (h : RW d e s w v xs a b) : ∃ A c, v = .slice A xs.length c := Kd.R_slice h.row
theorem RW.C {A : Option Addr} {n c : Nat} (h : RW d e s w (.slice A n c) xs a b) : d.C w A xs.length xs := by
  have h2 := Kd.R_reads' h.row
  rw [← h2.1]
  exact h2.1 ▸ h2.2.2
theorem RW.cap {A : Option Addr} {n c : Nat} (h : RW d e s w (.slice A n c) xs a b) : xs.length ≤ c := by
  have h2 := Kd.R_reads' h.row
  rw [← h2.1]
  exact h2.2.1
end
/-- The same of rows whose elements lie apart. -/
structure SW {α : Type} (d : Kd α) (e s : Nat) (w : World) (v : Value) (xs : List α) (a b : Nat) : Prop where
  row : Kd.S d e w s (fun k => a ≤ k ∧ k < b) v xs
  le : b ≤ w.heap.size
  ab : a ≤ b
  sa : s ≤ a
section
variable {α : Type} {d : Kd α} {e s a b a' b' : Nat} {w w0 w1 : World} {v : Value} {xs : List α}
theorem SW.of (h : Kd.S d e w1 w.heap.size (fun _ => True) v xs) (hb : Below w.heap.size w w1) (hB : Below w0.heap.size w0 w) : SW d e w0.heap.size w1 v xs w.heap.size w1.heap.size :=
  ⟨Kd.S_lower (Kd.S_mono (Kd.S_bound h) (fun _ hk => ⟨hk.2.1, hk.2.2.1⟩)) hB.size, Nat.le_refl _, hb.size, hB.size⟩
theorem SW.below (h : SW d e s w v xs a b) (hb : Below w.heap.size w w1) : SW d e s w1 v xs a b := ⟨Kd.S_below h.row hb, Nat.le_trans h.le hb.size, h.ab, h.sa⟩
theorem SW.keep (h : SW d e s w v xs a b) (hk : Kept w w1 (fun k => a' ≤ k ∧ k < b')) (hd : b ≤ a' ∨ b' ≤ a) : SW d e s w1 v xs a b :=
  ⟨Kd.S_step h.row (fun k hw hlt => hk.2 k hlt (by omega)), Nat.le_trans h.le hk.1, h.ab, h.sa⟩
theorem SW.reads (h : SW d e s w v xs a b) : ∃ A c, v = .slice A xs.length c ∧ xs.length ≤ c ∧ d.C w A xs.length xs := Kd.S_reads h.row
theorem SW.slice (h : SW d e s w v xs a b) : ∃ A c, v = .slice A xs.length c := Kd.S_slice h.row
theorem SW.toRW (h : SW d e s w v xs a b) : RW d e s w v xs a b := ⟨Kd.S_R h.row, h.le, h.ab, h.sa⟩
theorem SW.C {A : Option Addr} {n c : Nat} (h : SW d e s w (.slice A n c) xs a b) : d.C w A xs.length xs := h.toRW.C
theorem SW.cap {A : Option Addr} {n c : Nat} (h : SW d e s w (.slice A n c) xs a b) : xs.length ≤ c := h.toRW.cap
end
/-- .. and of rows that nobody writes any more. -/
structure RO {α : Type} (d : Kd α) (e s : Nat) (w : World) (v : Value) (xs : List α) : Prop where
  row : Kd.R d e w s (fun _ => True) v xs
section
variable {α : Type} {d : Kd α} {e s : Nat} {w w1 : World} {v : Value} {xs : List α} {P : Nat → Prop}
theorem RO.of (h : Kd.R d e w s P v xs) : RO d e s w v xs := ⟨Kd.R_mono h (fun _ _ => trivial)⟩
theorem RO.ofS (h : Kd.S d e w s P v xs) : RO d e s w v xs := RO.of (Kd.S_R h)
theorem RO.below (h : RO d e s w v xs) (hb : Below w.heap.size w w1) : RO d e s w1 v xs := ⟨Kd.R_below h.row hb⟩
theorem RO.C {A : Option Addr} {n c : Nat} (h : RO d e s w (.slice A n c) xs) : d.C w A xs.length xs := by
  have h2 := Kd.R_reads' h.row
  rw [← h2.1]
  exact h2.1 ▸ h2.2.2
theorem RO.cap {A : Option Addr} {n c : Nat} (h : RO d e s w (.slice A n c) xs) : xs.length ≤ c := by
  have h2 := Kd.R_reads' h.row
  rw [← h2.1]
  exact h2.2.1
end
end Go.Proofs.Ytkehjekbglajhaa.Pure
