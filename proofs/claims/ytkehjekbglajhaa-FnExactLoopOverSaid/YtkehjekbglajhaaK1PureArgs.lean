/- Plain facts on what a law does with an argument of type Prog: its size is reckoned, it is copied field by field, and a copy equals a copy. -/
import Derived.Test.YtkehjekbglajhaaK1PureBase
import Derived.Test.YtkehjekbglajhaaK1F3
import Derived.Test.YtkehjekbglajhaaK1F5
import Derived.Test.YtkehjekbglajhaaK1F6
namespace Go.Proofs.Ytkehjekbglajhaa.Pure
open Go.RowKit Go.Proofs.Ytkehjekbglajhaa.F Go.Proofs.YtkehjekbglajhaaW.PrintWords Go.Proofs.YtkehjekbglajhaaW.PrintLast

abbrev LStep := S94
/-- A step of the law's own type, as one of the program's. -/
def conv (s : LStep) : Step := ⟨s.f0, s.f1, s.f2, ⟨s.f3.f0, s.f3.f1⟩, ⟨s.f4.f0, s.f4.f1⟩, s.f5⟩
def big : Nat := 1048576
theorem lstep_get (l : List LStep) (i : Int) (h0 : 0 ≤ i) (h1 : i < (l.length : Int)) : ∃ h : i.toNat < l.length, rd_T94 l i = l[i.toNat] :=
  ⟨by omega, getD_getElem l _ i h0 (by omega)⟩
theorem eq_of_all {α : Type} {a b : List α} (hl : a.length = b.length) (h : ∀ j, j < b.length → a[j]? = b[j]?) : a = b := by
  apply List.ext_getElem?
  intro j
  by_cases hj : j < b.length
  · exact h j hj
  · rw [List.getElem?_eq_none (by omega), List.getElem?_eq_none (by omega)]

/-! ### the size -/
theorem szStepL (l : List LStep) (hl : l.length ≤ big) (hn : ∀ s ∈ l, s.f5.length ≤ 9223372036854775807) : ∀ (d : Nat) (i x : Int), 0 ≤ i → (l.length : Int) - i = d → 0 ≤ x → x ≤ big →
    ∃ r, Ev (fun k => laws_szStepS.l0 k l x i) r ∧ (0 ≤ r → ∀ j (hj : j < l.length), i ≤ (j : Int) → l[j].f5.length ≤ big)
  | 0, i, x, h0, hd, hx, hx' => ⟨x, ev_const 1 (fun k => by simp only [laws_szStepS.l0]; rw [if_neg (by omega)]), fun _ j hj hij => by omega⟩
  | d + 1, i, x, h0, hd, hx, hx' => by
    have hlt : i < (l.length : Int) := by omega
    obtain ⟨hi, hg⟩ := lstep_get l i h0 hlt
    have hi1 : wrap64 (i + 1) = i + 1 := wrap_id (by omega) (by unfold big at hl; omega)
    have hb := hn _ (by rw [hg]; exact List.getElem_mem hi : rd_T94 l i ∈ l)
    have hw : wrap64 (x - ((rd_T94 l i).f5.length : Int)) = x - ((rd_T94 l i).f5.length : Int) := wrap_id (by omega) (by unfold big at hx'; omega)
    by_cases hneg : x - ((rd_T94 l i).f5.length : Int) < 0
    · refine ⟨-1, ev_const 1 (fun k => ?_), fun h => absurd h (by omega)⟩
      simp only [laws_szStepS.l0, laws_szStep.f, laws_szIntS.f]
      rw [if_pos hlt, if_pos h0, hw, if_pos hneg]
      simp
    · obtain ⟨r, hr, hb'⟩ := szStepL l hl hn d (i + 1) (x - ((rd_T94 l i).f5.length : Int)) (by omega) (by omega) (by omega) (by omega)
      refine ⟨r, Ev.step (f := fun k => laws_szStepS.l0 k l (x - ((rd_T94 l i).f5.length : Int)) (i + 1)) (fun k => ?_) hr, fun h j hj hij => ?_⟩
      · simp only [laws_szStepS.l0, laws_szStep.f, laws_szIntS.f]
        rw [if_pos hlt, if_pos h0, hw, if_neg hneg]
        simp only [Option.bind_some]
        rw [if_neg hneg]
        simp only [Option.bind_some]
        rw [if_neg hneg, hi1]
      · by_cases e : (j : Int) = i
        · have ej : j = i.toNat := by omega
          subst ej
          rw [← hg]
          unfold big at hx' ⊢
          omega
        · exact hb' h j hj (by omega)
theorem szOk (l : List LStep) (hl : l.length ≤ 9223372036854775807) (hn : ∀ s ∈ l, s.f5.length ≤ 9223372036854775807) :
    ∃ r, Ev (fun k => laws_szProg.f k l 1048576) r ∧ (0 ≤ r → l.length ≤ big ∧ ∀ s ∈ l, s.f5.length ≤ big) := by
  unfold laws_szProg.f laws_szStepS.f
  have hw : wrap64 (1048576 - (l.length : Int)) = 1048576 - (l.length : Int) := wrap_id (by omega) (by omega)
  simp only [hw]
  by_cases h : 1048576 - (l.length : Int) < 0
  · exact ⟨-1, ev_const 0 (fun k => by rw [if_pos h]; simp), fun h' => absurd h' (by omega)⟩
  · have hb : l.length ≤ big := by unfold big; omega
    obtain ⟨r, hr, hr'⟩ := szStepL l hb hn l.length 0 (1048576 - (l.length : Int)) (by omega) (by omega) (by omega) (by unfold big; omega)
    refine ⟨if r < 0 then -1 else r, ?_, fun h' => ?_⟩
    · have h2 := Ev.bind (f := fun _ t => if t < 0 then some (-1) else some t) (r := if r < 0 then -1 else r) hr (ev_const 0 (fun k => by split <;> rfl))
      exact Ev.congr (fun k => by rw [if_neg h]) h2
    · by_cases hneg : r < 0
      · rw [if_pos hneg] at h'
        omega
      · refine ⟨hb, fun s hs => ?_⟩
        obtain ⟨j, hj, rfl⟩ := List.getElem_of_mem hs
        exact hr' (by omega) j hj (by omega)

/-! ### the copy -/
theorem toIntL (l : List Int) (hl : l.length ≤ big) : ∀ (d : Nat) (i : Int) (y : List Int), 0 ≤ i → (l.length : Int) - i = d → y.length = l.length → (∀ j : Nat, (j : Int) < i → y[j]? = l[j]?) → Ev (fun k => laws_toIntS.l0 k l y i) l
  | 0, i, y, h0, hd, hy, hj => by
    have e : y = l := eq_of_all hy (fun j hjl => hj j (by omega))
    subst e
    exact ev_const 1 (fun k => by simp only [laws_toIntS.l0]; rw [if_neg (by omega)])
  | d + 1, i, y, h0, hd, hy, hj => by
    have hlt : i < (l.length : Int) := by omega
    obtain ⟨hi, hg⟩ := int_get l i h0 hlt
    have hi1 : wrap64 (i + 1) = i + 1 := wrap_id (by omega) (by unfold big at hl; omega)
    refine Ev.step (f := fun k => laws_toIntS.l0 k l (y.set i.toNat (rd l i)) (i + 1)) (fun k => ?_) (toIntL l hl d (i + 1) _ (by omega) (by omega) (by simpa using hy) (fun j hji => ?_))
    · simp only [laws_toIntS.l0]
      rw [if_pos hlt, if_pos h0, if_pos (by omega), hi1]
    · by_cases e : (j : Int) = i
      · have ej : j = i.toNat := by omega
        subst ej
        rw [List.getElem?_set_self (by omega), hg, List.getElem?_eq_getElem hi]
      · rw [List.getElem?_set_ne (by omega)]
        exact hj j (by omega)
theorem toInts (l : List Int) (hl : l.length ≤ big) : Ev (fun k => laws_toIntS.f k l) l := by
  unfold laws_toIntS.f
  refine Ev.congr (f := fun k => laws_toIntS.l0 k l (List.replicate l.length 0) 0) (fun k => ?_) (toIntL l hl l.length 0 _ (by omega) (by omega) (by simp) (fun j hj => by omega))
  rw [if_pos (by omega), if_pos (by unfold big at hl; omega)]
  rfl
theorem toStepEv (s : LStep) (hs : s.f5.length ≤ big) : Ev (fun k => laws_toStep.f k s.f0 s.f1 s.f2 s.f3.f0 s.f3.f1 s.f4.f0 s.f4.f1 s.f5) (s.f0, s.f1, s.f2, s.f3.f0, s.f3.f1, s.f4.f0, s.f4.f1, s.f5) := by
  unfold laws_toStep.f laws_toOpnd.f
  simp only [Option.bind_some]
  exact Ev.bind (toInts s.f5 hs) (ev_const 0 (fun k => rfl))
theorem toStepL (l : List LStep) (hl : l.length ≤ big) (hn : ∀ s ∈ l, s.f5.length ≤ big) : ∀ (d : Nat) (i : Int) (y : List Step), 0 ≤ i → (l.length : Int) - i = d → y.length = l.length → (∀ j : Nat, (j : Int) < i → y[j]? = (l.map conv)[j]?) → Ev (fun k => laws_toStepS.l0 k l y i) (l.map conv)
  | 0, i, y, h0, hd, hy, hj => by
    have e : y = l.map conv := eq_of_all (by simpa using hy) (fun j hjl => hj j (by simp at hjl; omega))
    rw [e]
    exact ev_const 1 (fun k => by simp only [laws_toStepS.l0]; rw [if_neg (by omega)])
  | d + 1, i, y, h0, hd, hy, hj => by
    have hlt : i < (l.length : Int) := by omega
    obtain ⟨hi, hg⟩ := lstep_get l i h0 hlt
    have hi1 : wrap64 (i + 1) = i + 1 := wrap_id (by omega) (by unfold big at hl; omega)
    have hs := toStepEv (rd_T94 l i) (hn _ (by rw [hg]; exact List.getElem_mem hi))
    have ih := toStepL l hl hn d (i + 1) (y.set i.toNat (conv (rd_T94 l i))) (by omega) (by omega) (by simpa using hy) (fun j hji => by
      by_cases e : (j : Int) = i
      · have ej : j = i.toNat := by omega
        subst ej
        rw [List.getElem?_set_self (by omega), hg]
        simp [hi]
      · rw [List.getElem?_set_ne (by omega)]
        exact hj j (by omega))
    have hb := Ev.bind (f := fun k (bt : Int × Int × Int × Int × Int × Int × Int × List Int) => if i < (y.length : Int) then laws_toStepS.l0 k l (y.set i.toNat (⟨bt.1, bt.2.1, bt.2.2.1, ⟨bt.2.2.2.1, bt.2.2.2.2.1⟩, ⟨bt.2.2.2.2.2.1, bt.2.2.2.2.2.2.1⟩, bt.2.2.2.2.2.2.2⟩ : Step)) (wrap64 (i + 1)) else none) hs
      (Ev.congr (f := fun k => laws_toStepS.l0 k l (y.set i.toNat (conv (rd_T94 l i))) (i + 1)) (fun k => by rw [if_pos (by omega), hi1]; rfl) ih)
    refine Ev.step (fun k => ?_) hb
    simp only [laws_toStepS.l0]
    rw [if_pos hlt, if_pos h0]
theorem toProgEv (l : List LStep) (hl : l.length ≤ big) (hn : ∀ s ∈ l, s.f5.length ≤ big) : Ev (fun k => laws_toProg.f k l) (l.map conv) := by
  unfold laws_toProg.f laws_toStepS.f
  have h := toStepL l hl hn l.length 0 (List.replicate l.length z68) (by omega) (by omega) (by simp) (fun j hj => by omega)
  have h2 := Ev.bind (f := fun _ (t : List Step) => some t) h (ev_const 0 (fun k => rfl))
  refine Ev.congr (fun k => ?_) h2
  rw [if_pos (by omega), if_pos (by unfold big at hl; omega)]
  rfl

/-! ### a copy equals a copy -/
theorem eqIntL (l : List Int) (hl : l.length ≤ big) : ∀ (d : Nat) (i : Int), 0 ≤ i → (l.length : Int) - i = d → Ev (fun k => laws_eqIntS.l0 k l l i) true
  | 0, i, h0, hd => ev_const 1 (fun k => by simp only [laws_eqIntS.l0]; rw [if_neg (by omega)])
  | d + 1, i, h0, hd => by
    have hlt : i < (l.length : Int) := by omega
    have hi1 : wrap64 (i + 1) = i + 1 := wrap_id (by omega) (by unfold big at hl; omega)
    refine Ev.step (fun k => ?_) (eqIntL l hl d (i + 1) (by omega) (by omega))
    simp only [laws_eqIntS.l0]
    rw [if_pos hlt, if_pos h0, if_pos hlt, if_pos trivial, hi1]
theorem eqInts (l : List Int) (hl : l.length ≤ big) : Ev (fun k => laws_eqIntS.f k l l) true := by
  unfold laws_eqIntS.f
  exact Ev.congr (fun k => by rw [if_pos rfl]) (eqIntL l hl l.length 0 (by omega) (by omega))
theorem eqStepEv (s : Step) (hs : s.f5.length ≤ big) : Ev (fun k => laws_eqStep.f k s.f0 s.f1 s.f2 s.f3.f0 s.f3.f1 s.f4.f0 s.f4.f1 s.f5 s.f0 s.f1 s.f2 s.f3.f0 s.f3.f1 s.f4.f0 s.f4.f1 s.f5) true := by
  unfold laws_eqStep.f laws_eqOpnd.f
  simp only [if_true, Option.bind_some]
  exact Ev.bind (eqInts s.f5 hs) (ev_const 0 (fun k => rfl))
theorem eqStepL (l : List Step) (hl : l.length ≤ big) (hn : ∀ s ∈ l, s.f5.length ≤ big) : ∀ (d : Nat) (i : Int), 0 ≤ i → (l.length : Int) - i = d → Ev (fun k => laws_eqStepS.l0 k l l i) true
  | 0, i, h0, hd => ev_const 1 (fun k => by simp only [laws_eqStepS.l0]; rw [if_neg (by omega)])
  | d + 1, i, h0, hd => by
    have hlt : i < (l.length : Int) := by omega
    obtain ⟨hi, hg⟩ := step_get l i h0 hlt
    have hi1 : wrap64 (i + 1) = i + 1 := wrap_id (by omega) (by unfold big at hl; omega)
    have hs := eqStepEv (rd_T68 l i) (hn _ (by rw [hg]; exact List.getElem_mem hi))
    have hb := Ev.bind (f := fun k (t : Bool) => if t = true then laws_eqStepS.l0 k l l (wrap64 (i + 1)) else some false) hs
      (Ev.congr (f := fun k => laws_eqStepS.l0 k l l (i + 1)) (fun k => by rw [if_pos rfl, hi1]) (eqStepL l hl hn d (i + 1) (by omega) (by omega)))
    refine Ev.step (fun k => ?_) hb
    simp only [laws_eqStepS.l0]
    rw [if_pos hlt, if_pos h0, if_pos hlt]
theorem eqProgEv (l : List Step) (hl : l.length ≤ big) (hn : ∀ s ∈ l, s.f5.length ≤ big) : Ev (fun k => laws_eqProg.f k l l) true := by
  unfold laws_eqProg.f laws_eqStepS.f
  have h := eqStepL l hl hn l.length 0 (by omega) (by omega)
  have h2 := Ev.bind (f := fun _ (t : Bool) => if t = true then some true else some false) h (ev_const 0 (fun k => rfl))
  exact Ev.congr (fun k => by rw [if_pos rfl]) h2
/-- What is told of a law's argument that lies in memory. -/
theorem args_small {w : World} {A : Option Addr} {l : List LStep} (hr : Kd.C k94 w A l.length l) : l.length ≤ 9223372036854775807 ∧ ∀ s ∈ l, s.f5.length ≤ 9223372036854775807 := by
  refine ⟨hr.2.1, fun s hs => ?_⟩
  obtain ⟨j, hj, rfl⟩ := List.getElem_of_mem hs
  obtain ⟨ad, A7, c7, _, _, _, _, _, _, _, _, _, _, hi⟩ := at_T94 hr j (by omega) (by omega)
  have h := hi.2.1
  rw [(lstep_get l j (by omega) (by omega)).2] at h
  simpa using h
end Go.Proofs.Ytkehjekbglajhaa.Pure
