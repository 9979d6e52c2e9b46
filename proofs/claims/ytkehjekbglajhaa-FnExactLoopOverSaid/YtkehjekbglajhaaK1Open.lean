/- What a law's argument of type Prog or Expr is when it can be read as data: its cells, field by field. -/
import Derived.Test.YtkehjekbglajhaaK1F0
import Derived.ChangeSlices
import Derived.ChangeArms
import Derived.Deep.Slices
import Derived.Deep.Strs
import Derived.DataReads
import Derived.SizedLaws
namespace Go.Proofs.Ytkehjekbglajhaa.Open
open Go.RowKit Go.Proofs.YtkehjekbglajhaaW.PrintWords Go.Proofs.YtkehjekbglajhaaW.PrintLast Go.Proofs.YtkehjekbglajhaaW.PrintMore Go.Proofs.Ytkehjekbglajhaa.F Go.ChangeShapes Go.WideShapes Go.Deep
section
variable {H : Type} {enc : TypeId × Value → H} {P : Program} {w : World} {base : Nat} {spare : Nat → Bool} {held : Bool}

theorem open_int1 {t : TypeId} {k : IntKind} {fuel : Nat} {c : Value} {x : DataW H × List MemPlace} (ht : P.underlying t = some (.int k)) (h : DataW.trod enc P w base spare held fuel t [c] = some x) : ∃ n, c = .int k n := by
  obtain ⟨m, hm, _⟩ := DataW.trod_int ht h
  exact ⟨m, by simpa using hm⟩
/-- A slice: each element as its kind tells it. -/
theorem open_row {α : Type} (d : Kd α) {t e : TypeId} {fuel : Nat} {cs : List Value} {x : DataW H × List MemPlace} (ht : P.underlying t = some (.slice e)) (hc : P.cellsOf e = d.sz)
    (hd : ∀ (fuel : Nat) (cs : List Value) (x : DataW H × List MemPlace), DataW.trod enc P w base spare held fuel e cs = some x → ∃ a, d.K w a cs)
    (h : DataW.trod enc P w base spare held fuel t cs = some x) : ∃ (A : Option Addr) (c : Nat) (l : List α), cs = [.slice A l.length c] ∧ l.length ≤ c ∧ Kd.C d w A l.length l := by
  rcases open_slice ht h with ⟨rfl, _⟩ | ⟨a, len, cap, m, n, D, Pl, rfl, hb, hl, hm, hmm, _, hel⟩
  · exact ⟨none, 0, [], rfl, Nat.le_refl _, Kd.C_nil _ _⟩
  · have hlm : len ≤ m := by rw [hmm]; split <;> omega
    have he : ∀ i : Fin len, ∃ y : α, ∃ c : List Value, c.length = d.sz ∧ d.K w y c ∧ ∀ j u, c[j]? = some u → w.cell? (a.add (i.1 * d.sz + j)) = some u := by
      intro i
      obtain ⟨cs', h1, h2⟩ := hel i.1 (by omega)
      obtain ⟨y, hy⟩ := hd _ _ _ h2
      obtain ⟨_, hl', hcell⟩ := World.cells?_some h1
      rw [hc] at hl' hcell
      refine ⟨y, cs', hl', hy, fun j u hj => ?_⟩
      have hj' : j < d.sz := by
        have := (List.getElem?_eq_some_iff.1 hj).1
        omega
      have h3 := hcell j hj'
      rw [Deep.add_add] at h3
      rw [h3, hj]
    refine ⟨some a, cap, List.ofFn fun i => Classical.choose (he i), by simp, by simpa using hl, ?_⟩
    refine ⟨by simp, by simp only [List.length_ofFn]; unfold maxLen at hm; omega, fun _ => ⟨a, rfl, fun j p hj => ?_⟩⟩
    obtain ⟨hj1, hj2⟩ := List.getElem?_eq_some_iff.1 hj
    rw [List.length_ofFn] at hj1
    rw [List.getElem_ofFn] at hj2
    rw [← hj2]
    exact Classical.choose_spec (he ⟨j, hj1⟩)
end
section
variable {H : Type} {enc : TypeId × Value → H} {w : World} {base : Nat} {spare : Nat → Bool} {held : Bool}
set_option maxRecDepth 100000 in
theorem open_ints_row (fuel : Nat) (cs : List Value) (x : DataW H × List MemPlace) (h : DataW.trod enc Try.prog w base spare held fuel 60 cs = some x) : ∃ (A : Option Addr) (c : Nat) (l : List Int), cs = [.slice A l.length c] ∧ l.length ≤ c ∧ Kd.C (Kd.int .i64) w A l.length l :=
  open_row (Kd.int .i64) Try.underlying60 (by kernel_rfl) (fun fuel cs x h => by
    obtain ⟨n, rfl, _⟩ := DataW.trod_int Try.underlying3 h
    exact ⟨n, rfl⟩) h
set_option maxRecDepth 100000 in
theorem open_step (fuel : Nat) (cs : List Value) (x : DataW H × List MemPlace) (h : DataW.trod enc Try.prog w base spare held fuel 94 cs = some x) : ∃ a, k94.K w a cs := by
  obtain ⟨xs, n, _, _, hl, hlen, hf⟩ := DataW.trod_struct Try.underlying94 h
  have hl8 : cs.length = 8 := by rw [hl]; kernel_rfl
  have hi : Try.prog.cellsOf 3 = 1 := by kernel_rfl
  have ho : Try.prog.cellsOf 39 = 2 := by kernel_rfl
  have hr : Try.prog.cellsOf 60 = 1 := by kernel_rfl
  have hx6 : xs.length = 6 := by simpa using hlen
  match cs, hl8 with
  | [c0, c1, c2, c3, c4, c5, c6, c7], _ =>
    match xs, hx6 with
    | [y0, y1, y2, y3, y4, y5], _ =>
      have f0 := hf 0 _ rfl
      have f1 := hf 1 _ rfl
      have f2 := hf 2 _ rfl
      have f3 := hf 3 _ rfl
      have f4 := hf 4 _ rfl
      have f5 := hf 5 _ rfl
      simp [hi, ho, hr] at f0 f1 f2 f3 f4 f5
      obtain ⟨n0, rfl⟩ := open_int1 Try.underlying3 f0
      obtain ⟨n1, rfl⟩ := open_int1 Try.underlying3 f1
      obtain ⟨n2, rfl⟩ := open_int1 Try.underlying3 f2
      obtain ⟨z0, z1, m1, _, _, g0, g1⟩ := trod_struct2 Try.underlying39 f3
      obtain ⟨z2, z3, m2, _, _, g2, g3⟩ := trod_struct2 Try.underlying39 f4
      simp only [hi] at g0 g1 g2 g3
      obtain ⟨n3, rfl⟩ := open_int1 Try.underlying3 g0
      obtain ⟨n4, rfl⟩ := open_int1 Try.underlying3 g1
      obtain ⟨n5, rfl⟩ := open_int1 Try.underlying3 g2
      obtain ⟨n6, rfl⟩ := open_int1 Try.underlying3 g3
      obtain ⟨A, c, l, e, hlc, hC⟩ := open_ints_row _ _ _ f5
      obtain rfl : c7 = .slice A l.length c := by simpa using e
      exact ⟨⟨n0, n1, n2, ⟨n3, n4⟩, ⟨n5, n6⟩, l⟩, k94_mk w ⟨n0, n1, n2, ⟨n3, n4⟩, ⟨n5, n6⟩, l⟩ hlc hC⟩
set_option maxRecDepth 100000 in
theorem open_prog {fuel : Nat} {cs : List Value} {x : DataW H × List MemPlace} (h : DataW.trod enc Try.prog w base spare held fuel 24 cs = some x) : ∃ (A : Option Addr) (c : Nat) (l : List S94), cs = [.slice A l.length c] ∧ l.length ≤ c ∧ Kd.C k94 w A l.length l := by
  obtain ⟨y0, n, _, hl, h0⟩ := trod_struct1 Try.underlying24 h
  have hl1 : cs.length = 1 := by rw [hl]; kernel_rfl
  have hr : Try.prog.cellsOf 22 = 1 := by kernel_rfl
  match cs, hl1 with
  | [c0], _ =>
    simp only [hr] at h0
    exact open_row k94 Try.underlying22 (by kernel_rfl) open_step h0
set_option maxRecDepth 100000 in
theorem open_expr {fuel : Nat} {cs : List Value} {x : DataW H × List MemPlace} (h : DataW.trod enc Try.prog w base spare held fuel 41 cs = some x) : ∃ a b c d e : Int, cs = [.int .i64 a, .int .i64 b, .int .i64 c, .int .i64 d, .int .i64 e] := by
  obtain ⟨y0, y1, y2, n, _, hl, f0, f1, f2⟩ := trod_struct3 Try.underlying41 h
  have hl5 : cs.length = 5 := by rw [hl]; kernel_rfl
  have hi : Try.prog.cellsOf 3 = 1 := by kernel_rfl
  have ho : Try.prog.cellsOf 39 = 2 := by kernel_rfl
  match cs, hl5 with
  | [c0, c1, c2, c3, c4], _ =>
    simp only [hi, ho] at f0 f1 f2
    obtain ⟨n0, rfl⟩ := open_int1 Try.underlying3 f0
    obtain ⟨z0, z1, m1, _, _, g0, g1⟩ := trod_struct2 Try.underlying39 f1
    obtain ⟨z2, z3, m2, _, _, g2, g3⟩ := trod_struct2 Try.underlying39 f2
    simp only [hi] at g0 g1 g2 g3
    obtain ⟨n3, rfl⟩ := open_int1 Try.underlying3 g0
    obtain ⟨n4, rfl⟩ := open_int1 Try.underlying3 g1
    obtain ⟨n5, rfl⟩ := open_int1 Try.underlying3 g2
    obtain ⟨n6, rfl⟩ := open_int1 Try.underlying3 g3
    exact ⟨n0, n3, n4, n5, n6, rfl⟩
end
end Go.Proofs.Ytkehjekbglajhaa.Open
