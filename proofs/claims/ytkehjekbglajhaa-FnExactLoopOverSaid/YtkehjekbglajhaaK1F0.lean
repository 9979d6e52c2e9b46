-- printed by wip/myprint.py, a program that runs the kit's print.py patched in memory; hand-made contracts stand where that program has none. Not trusted: Lean checks it.
import Derived.Test.YtkehjekbglajhaaProg
import Derived.Test.YtkehjekbglajhaaK1V0
import Derived.Below
import Derived.Deep.Draws
import Derived.Deep.AppendLies
import Derived.Maps.AppendAt
import Derived.OwnWalk
import Derived.Laws.BytesArg
import Derived.Laws.MakeOwn
import Derived.Laws.OwnMore
import Derived.Deep.OwnRows
import Derived.Tactics
import Derived.Lib.ConvBytes
import Derived.Laws.Slices
import Derived.WalkKit
import Derived.KernelRfl
import Derived.RowKit3
import Derived.Deep.LoopGhost
import Derived.Deep.QuietTactic
import Derived.BigQuiet
import Derived.WideLaws
import Derived.Deep.DeepCutAuto
import Derived.Deep.CutBlock
import Derived.Deep.RegionHeld3
import Derived.Laws.Rows
import Derived.Lib.AppendStr
import Derived.ArgAppend
import Derived.Laws.IdiomCopy
import Derived.OrdersHeld
import Derived.Laws.BitsLemmas
import Derived.RowKit
import Derived.Shelf.Abstract
namespace Go.Proofs.Ytkehjekbglajhaa.F
open Go.RowKit Go.Proofs.YtkehjekbglajhaaW.PrintWords Go.Proofs.YtkehjekbglajhaaW.PrintLast
set_option linter.unusedVariables false
set_option linter.unusedSimpArgs false



def errW : Option Int → Value
  | none => .nilIface
  | some c => .iface 0 (.int .i64 c)
theorem errW_none : errW none = .nilIface := rfl
theorem errW_some (c : Int) : errW (some c) = .iface 0 (.int .i64 c) := rfl

theorem info3 : (Try.prog.info? 3).map (fun i => (i.zero, i.size, i.bytes)) = some (some (.int .i64 0), 1, 8) := by kernel_rfl
theorem info4 : (Try.prog.info? 4).map (fun i => (i.zero, i.size, i.bytes)) = some (some (.bool false), 1, 1) := by kernel_rfl
theorem info33 : (Try.prog.info? 33).map (fun i => (i.zero, i.size, i.bytes)) = some (some (.slice none 0 0), 1, 24) := by kernel_rfl
theorem info60 : (Try.prog.info? 60).map (fun i => (i.zero, i.size, i.bytes)) = some (some (.slice none 0 0), 1, 24) := by kernel_rfl
theorem info68 : (Try.prog.info? 68).map (fun i => (i.zero, i.size, i.bytes)) = some (some (.agg #[(.int .i64 0), (.int .i64 0), (.int .i64 0), (.int .i64 0), (.int .i64 0), (.int .i64 0), (.int .i64 0), (.slice none 0 0)]), 8, 80) := by kernel_rfl
-- the values' own types
/-! #### struct type 39 -/
structure S39 where
  f0 : Int
  f1 : Int
def z39 : S39 := ⟨(0 : Int), (0 : Int)⟩
def k39 : Kd S39 := Kd.iso (Kd.pair (Kd.int .i64) (Kd.int .i64)) (fun x : S39 => (x.f0, x.f1))
theorem k39_open {w : World} {x : S39} {cs : List Value} (h : k39.K w x cs) : cs = [.int .i64 x.f0, .int .i64 x.f1] := by
  obtain ⟨_, _, rfl, rfl, rfl⟩ := h
  exact rfl
theorem k39_mk (w : World) (x : S39)  : k39.K w x [.int .i64 x.f0, .int .i64 x.f1] := ⟨[.int .i64 x.f0], [.int .i64 x.f1], rfl, rfl, rfl⟩
def rd_L2 (xs : List (List Int)) (i : Int) : (List Int) := xs.getD i.toNat ([] : List Int)
theorem at_L2 {w : World} {A : Option Addr} {n : Nat} {xs : List (List Int)} (h : Kd.C (Kd.slice 3 (Kd.int .i64)) w A n xs) (i : Int) (h0 : 0 ≤ i) (h1 : i < n) : ∃ ad A0 c0, A = some ad ∧ w.cell? (ad.add i.toNat) = some (.slice A0 (rd_L2 xs i).length c0) ∧ (rd_L2 xs i).length ≤ c0 ∧ (Kd.int .i64).C w A0 (rd_L2 xs i).length (rd_L2 xs i) := by
  obtain ⟨ad, c, e, _, hK, hc0⟩ := Kd.C_get h ([] : List Int) i h0 h1
  have hc : ∀ j u, c[j]? = some u → w.cell? (ad.add (i.toNat * 1 + j)) = some u := hc0
  obtain ⟨A0, c0, rfl, l0, g0⟩ := hK
  exact ⟨ad, A0, c0, e, by have hq := hc 0 _ rfl; rwa [Nat.mul_one, Nat.add_zero] at hq, l0, g0⟩

/-! #### struct type 94 -/
structure S94 where
  f0 : Int
  f1 : Int
  f2 : Int
  f3 : S39
  f4 : S39
  f5 : (List Int)
def z94 : S94 := ⟨(0 : Int), (0 : Int), (0 : Int), z39, z39, ([] : List Int)⟩
def k94 : Kd S94 := Kd.iso (Kd.pair (Kd.int .i64) (Kd.pair (Kd.int .i64) (Kd.pair (Kd.int .i64) (Kd.pair k39 (Kd.pair k39 (Kd.slice 3 (Kd.int .i64))))))) (fun x : S94 => (x.f0, x.f1, x.f2, x.f3, x.f4, x.f5))
theorem k94_open {w : World} {x : S94} {cs : List Value} (h : k94.K w x cs) : ∃ A7 c7, cs = [.int .i64 x.f0, .int .i64 x.f1, .int .i64 x.f2, .int .i64 x.f3.f0, .int .i64 x.f3.f1, .int .i64 x.f4.f0, .int .i64 x.f4.f1, .slice A7 x.f5.length c7] ∧ x.f5.length ≤ c7 ∧ (Kd.int .i64).C w A7 x.f5.length x.f5 := by
  obtain ⟨_, _, rfl, rfl, ⟨_, _, rfl, rfl, ⟨_, _, rfl, rfl, ⟨_, _, rfl, s3, ⟨_, _, rfl, s5, ⟨A7, c7, rfl, l7, g7⟩⟩⟩⟩⟩⟩ := h
  obtain rfl := k39_open s3
  obtain rfl := k39_open s5
  exact ⟨A7, c7, rfl, l7, g7⟩
theorem k94_mk (w : World) (x : S94) {A7 : Option Addr} {c7 : Nat} (l7 : x.f5.length ≤ c7) (g7 : (Kd.int .i64).C w A7 x.f5.length x.f5) : k94.K w x [.int .i64 x.f0, .int .i64 x.f1, .int .i64 x.f2, .int .i64 x.f3.f0, .int .i64 x.f3.f1, .int .i64 x.f4.f0, .int .i64 x.f4.f1, .slice A7 x.f5.length c7] := ⟨[.int .i64 x.f0], [.int .i64 x.f1, .int .i64 x.f2, .int .i64 x.f3.f0, .int .i64 x.f3.f1, .int .i64 x.f4.f0, .int .i64 x.f4.f1, .slice A7 x.f5.length c7], rfl, rfl, ⟨[.int .i64 x.f1], [.int .i64 x.f2, .int .i64 x.f3.f0, .int .i64 x.f3.f1, .int .i64 x.f4.f0, .int .i64 x.f4.f1, .slice A7 x.f5.length c7], rfl, rfl, ⟨[.int .i64 x.f2], [.int .i64 x.f3.f0, .int .i64 x.f3.f1, .int .i64 x.f4.f0, .int .i64 x.f4.f1, .slice A7 x.f5.length c7], rfl, rfl, ⟨[.int .i64 x.f3.f0, .int .i64 x.f3.f1], [.int .i64 x.f4.f0, .int .i64 x.f4.f1, .slice A7 x.f5.length c7], rfl, (k39_mk w x.f3 ), ⟨[.int .i64 x.f4.f0, .int .i64 x.f4.f1], [.slice A7 x.f5.length c7], rfl, (k39_mk w x.f4 ), ⟨A7, c7, rfl, l7, g7⟩⟩⟩⟩⟩⟩
def rd_T94 (xs : List S94) (i : Int) : S94 := xs.getD i.toNat z94
theorem at_T94 {w : World} {A : Option Addr} {n : Nat} {xs : List S94} (h : Kd.C k94 w A n xs) (i : Int) (h0 : 0 ≤ i) (h1 : i < n) : ∃ ad A7 c7, A = some ad ∧ w.cell? (ad.add (i.toNat * 8)) = some (.int .i64 (rd_T94 xs i).f0) ∧ w.cell? ⟨(ad.add (i.toNat * 8)).block, (ad.add (i.toNat * 8)).off + 1, none⟩ = some (.int .i64 (rd_T94 xs i).f1) ∧ w.cell? ⟨(ad.add (i.toNat * 8)).block, (ad.add (i.toNat * 8)).off + 2, none⟩ = some (.int .i64 (rd_T94 xs i).f2) ∧ w.cell? ⟨(ad.add (i.toNat * 8)).block, (ad.add (i.toNat * 8)).off + 3, none⟩ = some (.int .i64 (rd_T94 xs i).f3.f0) ∧ w.cell? ⟨(ad.add (i.toNat * 8)).block, (ad.add (i.toNat * 8)).off + 4, none⟩ = some (.int .i64 (rd_T94 xs i).f3.f1) ∧ w.cell? ⟨(ad.add (i.toNat * 8)).block, (ad.add (i.toNat * 8)).off + 5, none⟩ = some (.int .i64 (rd_T94 xs i).f4.f0) ∧ w.cell? ⟨(ad.add (i.toNat * 8)).block, (ad.add (i.toNat * 8)).off + 6, none⟩ = some (.int .i64 (rd_T94 xs i).f4.f1) ∧ w.cell? ⟨(ad.add (i.toNat * 8)).block, (ad.add (i.toNat * 8)).off + 7, none⟩ = some (.slice A7 (rd_T94 xs i).f5.length c7) ∧ (rd_T94 xs i).f5.length ≤ c7 ∧ (Kd.int .i64).C w A7 (rd_T94 xs i).f5.length (rd_T94 xs i).f5 := by
  obtain ⟨ad, c, e, _, hK, hc0⟩ := Kd.C_get h z94 i h0 h1
  have hc : ∀ j u, c[j]? = some u → w.cell? (ad.add (i.toNat * 8 + j)) = some u := hc0
  obtain ⟨A7, c7, rfl, l7, g7⟩ := k94_open hK
  exact ⟨ad, A7, c7, e, hc 0 _ rfl, by rw [← add_field _ _ 1 (by omega)]; exact hc 1 _ rfl, by rw [← add_field _ _ 2 (by omega)]; exact hc 2 _ rfl, by rw [← add_field _ _ 3 (by omega)]; exact hc 3 _ rfl, by rw [← add_field _ _ 4 (by omega)]; exact hc 4 _ rfl, by rw [← add_field _ _ 5 (by omega)]; exact hc 5 _ rfl, by rw [← add_field _ _ 6 (by omega)]; exact hc 6 _ rfl, by rw [← add_field _ _ 7 (by omega)]; exact hc 7 _ rfl, l7, g7⟩

/-! #### struct type 43 -/
structure S43 where
  f0 : Int
  f1 : Int
def z43 : S43 := ⟨(0 : Int), (0 : Int)⟩
def k43 : Kd S43 := Kd.iso (Kd.pair (Kd.int .i64) (Kd.int .i64)) (fun x : S43 => (x.f0, x.f1))
theorem k43_open {w : World} {x : S43} {cs : List Value} (h : k43.K w x cs) : cs = [.int .i64 x.f0, .int .i64 x.f1] := by
  obtain ⟨_, _, rfl, rfl, rfl⟩ := h
  exact rfl
theorem k43_openM {w : World} {base : Nat} {ok : Nat → Prop} {x : S43} {cs : List Value} (h : k43.M w base ok x cs) : cs = [.int .i64 x.f0, .int .i64 x.f1] := by
  obtain ⟨_, _, rfl, rfl, rfl⟩ := h
  exact rfl
theorem k43_mkM (w : World) (base : Nat) (ok : Nat → Prop) (x : S43)  : k43.M w base ok x [.int .i64 x.f0, .int .i64 x.f1] := ⟨[.int .i64 x.f0], [.int .i64 x.f1], rfl, rfl, rfl⟩
structure S68 where
  f0 : Int
  f1 : Int
  f2 : Int
  f3 : S43
  f4 : S43
  f5 : (List Int)
def z68 : S68 := ⟨(0 : Int), (0 : Int), (0 : Int), z43, z43, ([] : List Int)⟩
def k68 : Kd S68 := Kd.iso (Kd.pair (Kd.int .i64) (Kd.pair (Kd.int .i64) (Kd.pair (Kd.int .i64) (Kd.pair k43 (Kd.pair k43 (Kd.slice 3 (Kd.int .i64))))))) (fun x : S68 => (x.f0, x.f1, x.f2, x.f3, x.f4, x.f5))
theorem k68_open {w : World} {x : S68} {cs : List Value} (h : k68.K w x cs) : ∃ A7 c7, cs = [.int .i64 x.f0, .int .i64 x.f1, .int .i64 x.f2, .int .i64 x.f3.f0, .int .i64 x.f3.f1, .int .i64 x.f4.f0, .int .i64 x.f4.f1, .slice A7 x.f5.length c7] ∧ x.f5.length ≤ c7 ∧ (Kd.int .i64).C w A7 x.f5.length x.f5 := by
  obtain ⟨_, _, rfl, rfl, ⟨_, _, rfl, rfl, ⟨_, _, rfl, rfl, ⟨_, _, rfl, s3, ⟨_, _, rfl, s5, ⟨A7, c7, rfl, l7, g7⟩⟩⟩⟩⟩⟩ := h
  obtain rfl := k43_open s3
  obtain rfl := k43_open s5
  exact ⟨A7, c7, rfl, l7, g7⟩
theorem k68_openM {w : World} {base : Nat} {ok : Nat → Prop} {x : S68} {cs : List Value} (h : k68.M w base ok x cs) : ∃ v7, cs = [.int .i64 x.f0, .int .i64 x.f1, .int .i64 x.f2, .int .i64 x.f3.f0, .int .i64 x.f3.f1, .int .i64 x.f4.f0, .int .i64 x.f4.f1, v7] ∧ (Kd.int .i64).R 3 w base ok v7 x.f5 := by
  obtain ⟨_, _, rfl, rfl, ⟨_, _, rfl, rfl, ⟨_, _, rfl, rfl, ⟨_, _, rfl, s3, ⟨_, _, rfl, s5, ⟨v7, rfl, g7⟩⟩⟩⟩⟩⟩ := h
  obtain rfl := k43_openM s3
  obtain rfl := k43_openM s5
  exact ⟨v7, rfl, g7⟩
theorem k68_mkM (w : World) (base : Nat) (ok : Nat → Prop) (x : S68) {v7 : Value} (g7 : (Kd.int .i64).R 3 w base ok v7 x.f5) : k68.M w base ok x [.int .i64 x.f0, .int .i64 x.f1, .int .i64 x.f2, .int .i64 x.f3.f0, .int .i64 x.f3.f1, .int .i64 x.f4.f0, .int .i64 x.f4.f1, v7] := ⟨[.int .i64 x.f0], [.int .i64 x.f1, .int .i64 x.f2, .int .i64 x.f3.f0, .int .i64 x.f3.f1, .int .i64 x.f4.f0, .int .i64 x.f4.f1, v7], rfl, rfl, ⟨[.int .i64 x.f1], [.int .i64 x.f2, .int .i64 x.f3.f0, .int .i64 x.f3.f1, .int .i64 x.f4.f0, .int .i64 x.f4.f1, v7], rfl, rfl, ⟨[.int .i64 x.f2], [.int .i64 x.f3.f0, .int .i64 x.f3.f1, .int .i64 x.f4.f0, .int .i64 x.f4.f1, v7], rfl, rfl, ⟨[.int .i64 x.f3.f0, .int .i64 x.f3.f1], [.int .i64 x.f4.f0, .int .i64 x.f4.f1, v7], rfl, (k43_mkM w base ok x.f3 ), ⟨[.int .i64 x.f4.f0, .int .i64 x.f4.f1], [v7], rfl, (k43_mkM w base ok x.f4 ), ⟨v7, rfl, g7⟩⟩⟩⟩⟩⟩
def rd_T68 (xs : List S68) (i : Int) : S68 := xs.getD i.toNat z68
theorem at_T68 {w : World} {A : Option Addr} {n : Nat} {xs : List S68} (h : Kd.C k68 w A n xs) (i : Int) (h0 : 0 ≤ i) (h1 : i < n) : ∃ ad A7 c7, A = some ad ∧ w.cell? (ad.add (i.toNat * 8)) = some (.int .i64 (rd_T68 xs i).f0) ∧ w.cell? ⟨(ad.add (i.toNat * 8)).block, (ad.add (i.toNat * 8)).off + 1, none⟩ = some (.int .i64 (rd_T68 xs i).f1) ∧ w.cell? ⟨(ad.add (i.toNat * 8)).block, (ad.add (i.toNat * 8)).off + 2, none⟩ = some (.int .i64 (rd_T68 xs i).f2) ∧ w.cell? ⟨(ad.add (i.toNat * 8)).block, (ad.add (i.toNat * 8)).off + 3, none⟩ = some (.int .i64 (rd_T68 xs i).f3.f0) ∧ w.cell? ⟨(ad.add (i.toNat * 8)).block, (ad.add (i.toNat * 8)).off + 4, none⟩ = some (.int .i64 (rd_T68 xs i).f3.f1) ∧ w.cell? ⟨(ad.add (i.toNat * 8)).block, (ad.add (i.toNat * 8)).off + 5, none⟩ = some (.int .i64 (rd_T68 xs i).f4.f0) ∧ w.cell? ⟨(ad.add (i.toNat * 8)).block, (ad.add (i.toNat * 8)).off + 6, none⟩ = some (.int .i64 (rd_T68 xs i).f4.f1) ∧ w.cell? ⟨(ad.add (i.toNat * 8)).block, (ad.add (i.toNat * 8)).off + 7, none⟩ = some (.slice A7 (rd_T68 xs i).f5.length c7) ∧ (rd_T68 xs i).f5.length ≤ c7 ∧ (Kd.int .i64).C w A7 (rd_T68 xs i).f5.length (rd_T68 xs i).f5 := by
  obtain ⟨ad, c, e, _, hK, hc0⟩ := Kd.C_get h z68 i h0 h1
  have hc : ∀ j u, c[j]? = some u → w.cell? (ad.add (i.toNat * 8 + j)) = some u := hc0
  obtain ⟨A7, c7, rfl, l7, g7⟩ := k68_open hK
  exact ⟨ad, A7, c7, e, hc 0 _ rfl, by rw [← add_field _ _ 1 (by omega)]; exact hc 1 _ rfl, by rw [← add_field _ _ 2 (by omega)]; exact hc 2 _ rfl, by rw [← add_field _ _ 3 (by omega)]; exact hc 3 _ rfl, by rw [← add_field _ _ 4 (by omega)]; exact hc 4 _ rfl, by rw [← add_field _ _ 5 (by omega)]; exact hc 5 _ rfl, by rw [← add_field _ _ 6 (by omega)]; exact hc 6 _ rfl, by rw [← add_field _ _ 7 (by omega)]; exact hc 7 _ rfl, l7, g7⟩

structure S29 where
  f0 : (List S68)
def rd_L9 (xs : List (List Bool)) (i : Int) : (List Bool) := xs.getD i.toNat ([] : List Bool)
theorem at_L9 {w : World} {A : Option Addr} {n : Nat} {xs : List (List Bool)} (h : Kd.C (Kd.slice 4 Kd.bool) w A n xs) (i : Int) (h0 : 0 ≤ i) (h1 : i < n) : ∃ ad A0 c0, A = some ad ∧ w.cell? (ad.add i.toNat) = some (.slice A0 (rd_L9 xs i).length c0) ∧ (rd_L9 xs i).length ≤ c0 ∧ Kd.bool.C w A0 (rd_L9 xs i).length (rd_L9 xs i) := by
  obtain ⟨ad, c, e, _, hK, hc0⟩ := Kd.C_get h ([] : List Bool) i h0 h1
  have hc : ∀ j u, c[j]? = some u → w.cell? (ad.add (i.toNat * 1 + j)) = some u := hc0
  obtain ⟨A0, c0, rfl, l0, g0⟩ := hK
  exact ⟨ad, A0, c0, e, by have hq := hc 0 _ rfl; rwa [Nat.mul_one, Nat.add_zero] at hq, l0, g0⟩

/-! #### struct type 45 -/
structure S45 where
  f0 : Int
  f1 : S43
  f2 : S43
def idxBy {α : Type} (p : α → Bool) (l : List α) : Int := if l.any p then ((l.findIdx p : Nat) : Int) else -1
theorem idxBy_hit {α : Type} (p : α → Bool) (l : List α) (k : Nat) (hk : k < l.length) (h : p l[k] = true) (h0 : ∀ j (hj : j < l.length), j < k → p l[j] = false) : idxBy p l = k := by
  have ha : l.any p = true := List.any_eq_true.2 ⟨l[k], List.getElem_mem hk, h⟩
  have hf : l.findIdx p = k := by
    rw [List.findIdx_eq hk]
    exact ⟨h, fun j hj => by simp [h0 j (by omega) hj]⟩
  unfold idxBy
  rw [if_pos ha, hf]
theorem idxBy_miss {α : Type} (p : α → Bool) (l : List α) (h : ∀ j (hj : j < l.length), p l[j] = false) : idxBy p l = -1 := by
  have ha : ¬ l.any p = true := by
    rw [List.any_eq_true]
    rintro ⟨x, hx, hp⟩
    obtain ⟨j, hj, rfl⟩ := List.getElem_of_mem hx
    rw [h j hj] at hp
    exact absurd hp (by decide)
  unfold idxBy
  rw [if_neg ha]
theorem idxBy_any {α : Type} (p : α → Bool) (l : List α) : decide (0 ≤ idxBy p l) = l.any p := by
  unfold idxBy
  by_cases h : l.any p = true
  · rw [if_pos h, h]; simp
  · rw [if_neg h]; simp at h ⊢; exact h
theorem wrap_succ {i : Int} {n : Nat} (h0 : 0 ≤ i) (h1 : i < (n : Int)) (hn : n ≤ 9223372036854775807) : wrap64 (i + 1) = i + 1 := by
  unfold wrap64
  omega
theorem getD_getElem {α : Type} (l : List α) (z : α) (i : Int) (h0 : 0 ≤ i) (h1 : i.toNat < l.length) : l.getD i.toNat z = l[i.toNat] := by
  simp [List.getD_eq_getElem?_getD, h1]
theorem drawn_trans {w w1 w2 : World} (h : Drawn0 w w1) (k : Drawn0 w1 w2) : Drawn0 w w2 := by
  obtain ⟨n, rfl⟩ := k
  exact h.step n
/-- any, where the test may have no answer yet. -/
def anyO {α : Type} (f : α → Option Bool) : List α → Option Bool
  | [] => some false
  | x :: l => (f x).bind fun b => (anyO f l).bind fun c => some (b || c)
theorem anyO_some {α : Type} (f : α → Option Bool) : ∀ (l : List α) (r : Bool), anyO f l = some r → (∀ x ∈ l, f x = some ((f x).getD false)) ∧ r = l.any fun x => (f x).getD false
  | [], r, h => by simp [anyO] at h; simp [← h]
  | x :: l, r, h => by
    obtain ⟨b, hb, h⟩ := Option.bind_eq_some_iff.mp h
    obtain ⟨c, hc, h⟩ := Option.bind_eq_some_iff.mp h
    obtain ⟨h1, h2⟩ := anyO_some f l c hc
    obtain rfl := Option.some.inj h
    refine ⟨fun y hy => ?_, by simp [hb, h2]⟩
    rcases List.mem_cons.1 hy with rfl | hy
    · simp [hb]
    · exact h1 y hy
theorem anyO_eval {α : Type} (f : α → Option Bool) (p : α → Bool) : ∀ (l : List α), (∀ x ∈ l, f x = some (p x)) → anyO f l = some (l.any p)
  | [], _ => rfl
  | x :: l, h => by
    have h1 := h x (by simp)
    have h2 := anyO_eval f p l (fun y hy => h y (by simp [hy]))
    simp [anyO, h1, h2]
theorem store_own {α : Type} {d : Kd α} {e : Nat} {w : World} {base : Nat} {ok : Nat → Prop} {v : Value} {xs : List α} (h : d.R e w base ok v xs) (P : Program) (a : Addr) (m : Mode) (W : World) : (store a v m).run P W = stored P W a v m := by
  obtain ⟨A, c, rfl⟩ := Kd.R_slice h
  exact run_store_slice P W a m A _ c
/-- A world that is further on than another one that is known to be. -/
class BelTo (w W W' : World) : Prop where
  mk ::
  out : Below w.heap.size w W → Below w.heap.size w W'
instance belTo_refl (w W : World) : BelTo w W W := ⟨id⟩
instance belTo_alloc (w W W' : World) (o : Obj) [h : BelTo w W W'] : BelTo w W (W'.alloc o) := ⟨fun k => below_alloc (h.out k) o⟩
instance belTo_drewN (w W W' : World) (n : Nat) [h : BelTo w W W'] : BelTo w W (W'.drewN n) := ⟨fun k => pw_below_drewN (h.out k) n⟩
instance belTo_drew (w W W' : World) [h : BelTo w W W'] : BelTo w W W'.drew := ⟨fun k => below_drew (h.out k)⟩
theorem bel {w W W' : World} [h : BelTo w W W'] (k : Below w.heap.size w W) : Below w.heap.size w W' := h.out k
theorem boxed {w W w2 : World} {gb : Nat} {Q : Prop} (h : Below w.heap.size w W) (hb : Below W.heap.size W w2) (hbox : Q) (hg : gb = W.heap.size) :
    Aside0 (Below w.heap.size w w2) ∧ Aside0 Q ∧ Aside0 (w.heap.size ≤ gb) ∧ Aside0 (w.heap.size ≤ gb) :=
  ⟨⟨below_step h hb⟩, ⟨hbox⟩, ⟨by rw [hg]; exact h.size⟩, ⟨by rw [hg]; exact h.size⟩⟩
theorem cells2 {w : World} {g t : Nat} {a0 a1 : Value} (h : w.heap[g]? = some (.cells #[a0, a1] t (0, 0))) : w.cell? ⟨g, 0, none⟩ = some a0 ∧ w.cell? ⟨g, 1, none⟩ = some a1 :=
  ⟨(blk_cell h 0).trans rfl, (blk_cell h 1).trans rfl⟩
theorem cells8 {w : World} {g t : Nat} {a0 a1 a2 a3 a4 a5 a6 a7 : Value} (h : w.heap[g]? = some (.cells #[a0, a1, a2, a3, a4, a5, a6, a7] t (0, 0))) :
    w.cell? ⟨g, 0, none⟩ = some a0 ∧ w.cell? ⟨g, 1, none⟩ = some a1 ∧ w.cell? ⟨g, 2, none⟩ = some a2 ∧ w.cell? ⟨g, 3, none⟩ = some a3 ∧ w.cell? ⟨g, 4, none⟩ = some a4 ∧ w.cell? ⟨g, 5, none⟩ = some a5 ∧ w.cell? ⟨g, 6, none⟩ = some a6 ∧ w.cell? ⟨g, 7, none⟩ = some a7 :=
  ⟨(blk_cell h 0).trans rfl, (blk_cell h 1).trans rfl, (blk_cell h 2).trans rfl, (blk_cell h 3).trans rfl, (blk_cell h 4).trans rfl, (blk_cell h 5).trans rfl, (blk_cell h 6).trans rfl, (blk_cell h 7).trans rfl⟩
/-! Is a step in form? Told once, for both who ask it. -/
def opndB (v n : Int) : Bool := if v = -1 then decide (0 ≤ n) && decide (n ≤ 65535) else decide (0 ≤ v) && decide (v ≤ 11) && decide (n = 0)
def nextsOf (k : Int) : Int := if k = 5 then 2 else if k = 7 then 0 else 1
def opIn (o : Int) : Bool := decide (1 ≤ o) && decide (o ≤ 4)
def opB (k o v n : Int) : Bool := cond (k == 1) (opIn o && opndB v n) (o == 0 && (v == 0 && (n == 0)))
def usesAB (k : Int) : Bool := k == 1 || k == 2 || k == 4 || k == 5
def aB (k v n : Int) : Bool := cond (usesAB k) (opndB v n) (v == 0 && (n == 0))
def setsB (k : Int) : Bool := decide (1 ≤ k) && decide (k ≤ 3)
def varB (d : Int) : Bool := decide (0 ≤ d) && decide (d ≤ 11)
def dstB (k d : Int) : Bool := cond (setsB k) (varB d) (d == 0)
def kindB (k : Int) : Bool := decide (1 ≤ k) && decide (k ≤ 7)
def outB (l : List Int) (m : Int) : Bool := l.any fun x => (!decide (0 ≤ x) || !decide (x ≤ m))
def stepV (a0 a1 a2 a3 a4 a5 a6 : Int) (l : List Int) (n : Int) : Bool :=
  ((((kindB a0 && ((l.length : Int) == nextsOf a0)) && !outB l (wrap64 (n - 1))) && dstB a0 a1) && aB a0 a3 a4) && opB a0 a2 a5 a6
theorem bsplit {Q : Prop} (b : Bool) (f : b = false → Q) (t : b = true → Q) : Q := by
  cases h : b
  · exact f h
  · exact t h
theorem bne_of {x y : Int} {b : Bool} (h : (x == y) = b) : (x != y) = !b := by rw [bne, h]
/-- A world that is further on keeps what lies there. -/
class Bel1 (W W' : World) : Prop where
  mk ::
  out : Below W.heap.size W W'
instance bel1_refl (W : World) : Bel1 W W := ⟨Below.refl _ _⟩
instance bel1_alloc (W W' : World) (o : Obj) [h : Bel1 W W'] : Bel1 W (W'.alloc o) := ⟨below_alloc h.out o⟩
instance bel1_drewN (W W' : World) (n : Nat) [h : Bel1 W W'] : Bel1 W (W'.drewN n) := ⟨pw_below_drewN h.out n⟩
instance bel1_drew (W W' : World) [h : Bel1 W W'] : Bel1 W W'.drew := ⟨below_drew h.out⟩
theorem blkm {W W' : World} {g : Nat} {o : Obj} [h : Bel1 W W'] (k : W.heap[g]? = some o) : W'.heap[g]? = some o := blk_below k h.out

theorem SS_inner {α : Type} {d : Kd α} (hE : d.E = []) {e E base n cap g : Nat} {ok : Nat → Prop} {w : World} {xs : List (List α)} (h : Kd.S (Kd.slice e d) E w base ok (.slice (some ⟨g, 0, none⟩) n cap) xs) (i : Int) (h0 : 0 ≤ i) (h1 : i < xs.length) :
    ∃ (v : Value) (oki : Nat → Prop), w.cell? ⟨g, i.toNat, none⟩ = some v ∧ Kd.R d e w base oki v (xs.getD i.toNat []) ∧ (∀ k, oki k → ok k) ∧ (∀ k, oki k → k ≠ g) ∧
      ∀ w1 l', Kept w w1 oki → Kd.R d e w1 base (fun k => oki k ∨ w.heap.size ≤ k) v l' → Kd.S (Kd.slice e d) E w1 base ok (.slice (some ⟨g, 0, none⟩) n cap) (xs.set i.toNat l') := by
  obtain ⟨rfl, _, _⟩ := Kd.S_reads' h
  obtain ⟨oki, c, hcl, hM, hcc, hfr, hoki, hH⟩ := Kd.S_elem h [] i h0 h1
  obtain ⟨v, rfl, hR⟩ := hM
  have hz := hcc 0 v rfl
  rw [show (Kd.slice e d).sz = 1 from rfl, Nat.mul_one, Nat.add_zero] at hz
  refine ⟨v, fun k => some k = v.ownBlock, hz, Kd.R_tight hE hR, fun k hk => (hoki k (hR.1 k hk.symm)).1, fun k hk => (hoki k (hR.1 k hk.symm)).2, fun w1 l' hK hR1 => ?_⟩
  have hT := Kd.R_tight hE hR1
  have hH1 := Kd.H_step hH (w1 := w1) (fun k _ hn hlt => hK.2 k hlt (fun hk => hn (hR.1 k hk.symm)))
  exact Kd.H_back hH1 (okp := fun k => some k = v.ownBlock) (x' := l') (Kd.M_row hT) (fun k hk => hR.1 k hk.symm)

end Go.Proofs.Ytkehjekbglajhaa.F
