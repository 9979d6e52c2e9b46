/- Plain facts on FlowReach: the reference goes round until nothing is new, the program keeps a stack; both come to the list that tells of each step whether a way leads to it. -/
import Derived.Test.YtkehjekbglajhaaK1PureBase
import Derived.Test.YtkehjekbglajhaaK1F8
namespace Go.Proofs.Ytkehjekbglajhaa.Pure
open Go.RowKit Go.Proofs.Ytkehjekbglajhaa.F Go.Proofs.YtkehjekbglajhaaW.PrintWords Go.Proofs.YtkehjekbglajhaaW.PrintLast

/-- Where a step leads. -/
def nx (l : List Step) (i : Nat) : List Int := match l[i]? with | some s => s.f5 | none => []
/-- What a way leads to. -/
inductive Rch (l : List Step) : Nat → Prop
  | zero : Rch l 0
  | step {i j : Nat} : Rch l i → (j : Int) ∈ nx l i → Rch l j
/-- What is known of a program in form. -/
structure Good (l : List Step) : Prop where
  pos : 1 ≤ l.length
  le : l.length ≤ 60
  nxt : ∀ i x, x ∈ nx l i → 0 ≤ x ∧ x < (l.length : Int)
  few : ∀ i, (nx l i).length ≤ 2
theorem good_of (l : List Step) (h : progB l = true) : Good l := by
  unfold progB at h
  simp only [Bool.and_eq_true, decide_eq_true_eq, List.all_eq_true] at h
  obtain ⟨⟨h1, h2⟩, h3⟩ := h
  have hs : ∀ i s, l[i]? = some s → stepB s l.length = true := fun i s hi => h3 s (List.mem_of_getElem? hi)
  refine ⟨h1, h2, fun i x hx => ?_, fun i => ?_⟩
  · unfold nx at hx
    cases hi : l[i]? with
    | none => rw [hi] at hx; simp at hx
    | some s =>
      rw [hi] at hx
      have := hs i s hi
      unfold stepB at this
      simp only [Bool.and_eq_true, List.all_eq_true, decide_eq_true_eq] at this
      exact this.1.1.1.2 x hx
  · unfold nx
    cases hi : l[i]? with
    | none => simp
    | some s =>
      have := hs i s hi
      unfold stepB at this
      simp only [Bool.and_eq_true, List.all_eq_true, decide_eq_true_eq] at this
      have hl := this.1.1.1.1.2
      unfold nextsOf at hl
      show s.f5.length ≤ 2
      split at hl
      · omega
      · split at hl <;> omega
theorem nx_eq (l : List Step) (i : Int) (h0 : 0 ≤ i) (h1 : i < (l.length : Int)) : (rd_T68 l i).f5 = nx l i.toNat := by
  obtain ⟨hi, hg⟩ := step_get l i h0 h1
  unfold nx
  rw [hg, List.getElem?_eq_getElem hi]
/-- Is a place marked? -/
abbrev T (o : List Bool) (j : Nat) : Prop := o[j]? = some true
theorem rd_T (o : List Bool) (x : Int) : rdOf false o x = true ↔ T o x.toNat := by
  unfold rdOf T
  rw [List.getD_eq_getElem?_getD]
  cases h : o[x.toNat]? with
  | none => simp
  | some b => simp
structure IsRch (l : List Step) (R : List Bool) : Prop where
  len : R.length = l.length
  iff : ∀ j, T R j ↔ Rch l j
theorem bools_ext {a b : List Bool} (hl : a.length = b.length) (h : ∀ j, T a j ↔ T b j) : a = b := by
  apply List.ext_getElem?
  intro j
  by_cases hj : j < b.length
  · have h1 := List.getElem?_eq_getElem (l := a) (show j < a.length by omega)
    have h2 := List.getElem?_eq_getElem hj
    have := h j
    unfold T at this
    rw [h1, h2] at this ⊢
    cases ha : a[j] <;> cases hb : b[j] <;> simp_all
  · rw [List.getElem?_eq_none (by omega), List.getElem?_eq_none (by omega)]
theorem IsRch.unique {l : List Step} {R R' : List Bool} (h : IsRch l R) (h' : IsRch l R') : R = R' :=
  bools_ext (h.len.trans h'.len.symm) (fun j => (h.iff j).trans (h'.iff j).symm)
/-- What is marked so far. -/
structure Inv (l : List Step) (o : List Bool) : Prop where
  len : o.length = l.length
  zero : T o 0
  sound : ∀ j, T o j → Rch l j
theorem Inv.done {l : List Step} {o : List Bool} (h : Inv l o) (hc : ∀ i, T o i → ∀ x ∈ nx l i, T o x.toNat) : IsRch l o := by
  refine ⟨h.len, fun j => ⟨h.sound j, fun hr => ?_⟩⟩
  induction hr with
  | zero => exact h.zero
  | step _ hx ih => simpa using hc _ ih _ hx
theorem T_set {o : List Bool} {j k : Nat} (h : T o k) : T (o.set j true) k := by
  unfold T at *
  rw [List.getElem?_set]
  split
  · rename_i e; subst e
    have := (List.getElem?_eq_some_iff.1 h).1
    simp [this]
  · exact h
theorem T_set_self {o : List Bool} {j : Nat} (h : j < o.length) : T (o.set j true) j := by
  unfold T
  rw [List.getElem?_set_self h]
theorem T_of_set {o : List Bool} {j k : Nat} (h : T (o.set j true) k) : k = j ∨ T o k := by
  unfold T at *
  rw [List.getElem?_set] at h
  split at h
  · rename_i e; exact .inl e.symm
  · exact .inr h
theorem count_set {o : List Bool} {j : Nat} (hj : j < o.length) (h : ¬ T o j) : (o.set j true).count true = o.count true + 1 := by
  have hf : o[j] = false := by
    unfold T at h
    rw [List.getElem?_eq_getElem hj] at h
    cases hb : o[j] with
    | false => rfl
    | true => rw [hb] at h; exact absurd rfl h
  rw [List.count_set hj, hf]
  simp
theorem Inv.set {l : List Step} {o : List Bool} (h : Inv l o) (g : Good l) {i : Nat} {x : Int} (hi : T o i) (hx : x ∈ nx l i) : Inv l (o.set x.toNat true) := by
  refine ⟨by rw [List.length_set]; exact h.len, T_set h.zero, fun j hj => ?_⟩
  rcases T_of_set hj with rfl | hj
  · refine .step (h.sound i hi) ?_
    have := g.nxt i x hx
    rw [Int.toNat_of_nonneg this.1]
    exact hx
  · exact h.sound j hj
theorem inv_start (l : List Step) (g : Good l) : Inv l ((List.replicate l.length false).set 0 true) := by
  refine ⟨by simp, T_set_self (by simp; have := g.pos; omega), fun j hj => ?_⟩
  rcases T_of_set hj with rfl | hj
  · exact .zero
  · unfold T at hj
    rw [List.getElem?_replicate] at hj
    split at hj <;> simp at hj
theorem drop_get (xs : List Int) (k : Int) (h0 : 0 ≤ k) (h1 : k < (xs.length : Int)) : xs.drop k.toNat = rd xs k :: xs.drop (k + 1).toNat := by
  obtain ⟨hk, hg⟩ := int_get xs k h0 h1
  rw [List.drop_eq_getElem_cons hk, hg, show (k + 1).toNat = k.toNat + 1 by omega]
theorem rd_mem (xs : List Int) (k : Int) (h0 : 0 ≤ k) (h1 : k < (xs.length : Int)) : rd xs k ∈ xs := by
  obtain ⟨hk, hg⟩ := int_get xs k h0 h1
  rw [hg]
  exact List.getElem_mem hk

/-! ### the reference -/
/-- What a stretch of the reference's rounds does. -/
structure Went (l : List Step) (o o' : List Bool) (a a' : Bool) : Prop where
  inv : Inv l o'
  up : ∀ j, T o j → T o' j
  more : o.count true ≤ o'.count true
  news : a' = true → a = true ∨ o.count true < o'.count true
  same : a' = false → a = false ∧ o' = o
theorem Went.trans {l : List Step} {o o' o'' : List Bool} {a a' a'' : Bool} (h : Went l o o' a a') (k : Went l o' o'' a' a'') : Went l o o'' a a'' := by
  refine ⟨k.inv, fun j hj => k.up j (h.up j hj), Nat.le_trans h.more k.more, fun ha => ?_, fun ha => ?_⟩
  · have := h.more
    have := k.more
    rcases k.news ha with h1 | h1
    · rcases h.news h1 with h2 | h2
      · exact .inl h2
      · exact .inr (by omega)
    · exact .inr (by omega)
  · obtain ⟨h1, rfl⟩ := k.same ha
    exact h.same h1
theorem specReachL2 (l : List Step) (g : Good l) (i : Int) (h0 : 0 ≤ i) (h1 : i < (l.length : Int)) : ∀ (d : Nat) (k : Int) (o : List Bool) (a : Bool), 0 ≤ k → ((nx l i.toNat).length : Int) - k = d → Inv l o →
    ∃ o' a', Went l o o' a a' ∧ (a' = false → T o i.toNat → ∀ x ∈ (nx l i.toNat).drop k.toNat, T o x.toNat) ∧ ∀ r, Ev (fun n => spec_FlowReach.l1 n o' a' (i + 1) l) r → Ev (fun n => spec_FlowReach.l2 n o a i k l) r
  | d, k, o, a, hk, hd, hI => by
    have hl := hI.len
    have hw : wrap64 (i + 1) = i + 1 := wrap_id (by omega) (by have := g.le; omega)
    have hnx := nx_eq l i h0 h1
    have out : ∀ r, (¬ k < ((nx l i.toNat).length : Int) ∨ rdOf false o i = false) → Ev (fun n => spec_FlowReach.l1 n o a (i + 1) l) r → Ev (fun n => spec_FlowReach.l2 n o a i k l) r := by
      intro r hc hr
      refine Ev.step (f := fun n => spec_FlowReach.j3 n o a i k false l) (fun n => ?_) (Ev.step (f := fun n => spec_FlowReach.l1 n o a (i + 1) l) (fun n => ?_) hr)
      · simp only [spec_FlowReach.l2]
        rw [if_pos h0, if_pos h1, hnx]
        by_cases hlt : k < ((nx l i.toNat).length : Int)
        · rw [if_pos hlt, if_pos (by omega)]
          rcases hc with hc | hc
          · exact absurd hlt hc
          · rw [hc]
        · rw [if_neg hlt]
      · simp only [spec_FlowReach.j3]
        rw [if_neg (by decide), hw]
    have refl : Went l o o a a := ⟨hI, fun _ h => h, Nat.le_refl _, fun h => .inl h, fun h => ⟨h, rfl⟩⟩
    by_cases hlt : k < ((nx l i.toNat).length : Int)
    · by_cases hb : rdOf false o i = true
      · cases d with
        | zero => omega
        | succ d =>
          have hx := rd_mem _ k hk hlt
          have hx2 := g.nxt _ _ hx
          have hwk : wrap64 (k + 1) = k + 1 := wrap_id (by omega) (by have := g.few i.toNat; omega)
          have hT := (rd_T o i).1 hb
          have round : ∀ n, spec_FlowReach.l2 (n + 2) o a i k l = if rdOf false o (rd (nx l i.toNat) k) = true then spec_FlowReach.l2 n o a i (k + 1) l else spec_FlowReach.l2 n (o.set (rd (nx l i.toNat) k).toNat true) true i (k + 1) l := by
            intro n
            simp only [spec_FlowReach.l2, spec_FlowReach.j3]
            rw [if_pos h0, if_pos h1, hnx, if_pos hlt, if_pos (by omega), hb, if_pos rfl, if_pos h0, if_pos h1, if_pos hk, if_pos hlt, if_pos hx2.1, if_pos (by omega), hwk]
          by_cases hm : rdOf false o (rd (nx l i.toNat) k) = true
          · obtain ⟨o', a', hw', hcl, hev⟩ := specReachL2 l g i h0 h1 d (k + 1) o a (by omega) (by omega) hI
            refine ⟨o', a', hw', fun ha hTi x hxm => ?_, fun r hr => ?_⟩
            · rw [drop_get _ k hk hlt] at hxm
              rcases List.mem_cons.1 hxm with rfl | hxm
              · exact (rd_T o _).1 hm
              · exact hcl ha hTi x hxm
            · refine Ev.step (f := fun n => spec_FlowReach.l2 (n + 1) o a i k l) (fun n => rfl) (Ev.step (fun n => ?_) (hev r hr))
              rw [round, if_pos hm]
          · have hI' := hI.set g hT hx
            have hc := count_set (o := o) (j := (rd (nx l i.toNat) k).toNat) (by omega) (fun h => hm ((rd_T o _).2 h))
            obtain ⟨o', a', hw', hcl, hev⟩ := specReachL2 l g i h0 h1 d (k + 1) (o.set (rd (nx l i.toNat) k).toNat true) true (by omega) (by omega) hI'
            refine ⟨o', a', ⟨hw'.inv, fun j hj => hw'.up j (T_set hj), ?_, fun _ => .inr ?_, fun ha => ?_⟩, fun ha => ?_, fun r hr => ?_⟩
            · have := hw'.more; omega
            · have := hw'.more; omega
            · exact absurd (hw'.same ha).1 (by decide)
            · exact absurd (hw'.same ha).1 (by decide)
            · refine Ev.step (f := fun n => spec_FlowReach.l2 (n + 1) o a i k l) (fun n => rfl) (Ev.step (fun n => ?_) (hev r hr))
              rw [round, if_neg hm]
      · refine ⟨o, a, refl, fun _ hT => absurd ((rd_T o i).2 hT) hb, fun r hr => out r (.inr (by simpa using hb)) hr⟩
    · refine ⟨o, a, refl, fun _ _ x hx => ?_, fun r hr => out r (.inl hlt) hr⟩
      rw [List.drop_eq_nil_of_le (by omega)] at hx
      simp at hx
theorem specReachL1 (l : List Step) (g : Good l) : ∀ (d : Nat) (i : Int) (o : List Bool) (a : Bool), 0 ≤ i → (l.length : Int) - i = d → Inv l o →
    ∃ o' a', Went l o o' a a' ∧ (a' = false → ∀ j : Nat, i ≤ (j : Int) → T o j → ∀ x ∈ nx l j, T o x.toNat) ∧ ∀ r, Ev (fun n => spec_FlowReach.l0 n o' a' l) r → Ev (fun n => spec_FlowReach.l1 n o a i l) r
  | 0, i, o, a, h0, hd, hI => by
    refine ⟨o, a, ⟨hI, fun _ h => h, Nat.le_refl _, fun h => .inl h, fun h => ⟨h, rfl⟩⟩, fun _ j hj hT => ?_, fun r hr => ?_⟩
    · have := (List.getElem?_eq_some_iff.1 hT).1
      have := hI.len
      omega
    · refine Ev.step (fun n => ?_) hr
      simp only [spec_FlowReach.l1]
      rw [if_neg (by omega)]
  | d + 1, i, o, a, h0, hd, hI => by
    have h1 : i < (l.length : Int) := by omega
    obtain ⟨o1, a1, w1, c1, e1⟩ := specReachL2 l g i h0 h1 (nx l i.toNat).length 0 o a (by omega) (by omega) hI
    obtain ⟨o2, a2, w2, c2, e2⟩ := specReachL1 l g d (i + 1) o1 a1 (by omega) (by omega) w1.inv
    refine ⟨o2, a2, w1.trans w2, fun ha j hj hT => ?_, fun r hr => ?_⟩
    · obtain ⟨ha1, rfl⟩ := w2.same ha
      obtain ⟨_, e⟩ := w1.same ha1
      by_cases e' : (j : Int) = i
      · have ej : j = i.toNat := by omega
        subst ej
        simpa using c1 ha1 hT
      · have := c2 ha j (by omega) (by rw [e]; exact hT)
        rw [e] at this
        exact this
    · refine Ev.step (f := fun n => spec_FlowReach.l2 n o a i 0 l) (fun n => ?_) (e1 r (e2 r hr))
      simp only [spec_FlowReach.l1]
      rw [if_pos h1]
theorem specReachL0 (l : List Step) (g : Good l) : ∀ (m : Nat) (o : List Bool), Inv l o → l.length - o.count true ≤ m → ∃ R, IsRch l R ∧ Ev (fun n => spec_FlowReach.l0 n o true l) R
  | m, o, hI, hm => by
    obtain ⟨o', a', w, c, e⟩ := specReachL1 l g l.length 0 o false (by omega) (by omega) hI
    have hstep : ∀ r, Ev (fun n => spec_FlowReach.l0 n o' a' l) r → Ev (fun n => spec_FlowReach.l0 n o true l) r := fun r hr => by
      refine Ev.step (fun n => ?_) (e r hr)
      simp only [spec_FlowReach.l0, if_true]
    cases ha : a' with
    | true =>
      have hlt : o.count true < o'.count true := by
        rcases w.news ha with h | h
        · exact absurd h (by decide)
        · exact h
      have hle : o'.count true ≤ l.length := by rw [← w.inv.len]; exact List.count_le_length
      cases m with
      | zero => omega
      | succ m =>
        obtain ⟨R, hR, hE⟩ := specReachL0 l g m o' w.inv (by omega)
        exact ⟨R, hR, hstep R (by rw [ha]; exact hE)⟩
    | false =>
      obtain ⟨_, rfl⟩ := w.same ha
      refine ⟨o', hI.done (fun i hi => c ha i (by omega) hi), hstep o' (ev_const 1 (fun n => ?_))⟩
      rw [ha]
      simp [spec_FlowReach.l0]
theorem lens_of (l : List Step) (h : progB l = true) : l.length < 4611686018427387904 ∧ ∀ s ∈ l, s.f5.length ≤ 9223372036854775807 := by
  have g := good_of l h
  refine ⟨by have := g.le; omega, fun s hs => ?_⟩
  obtain ⟨i, hi, rfl⟩ := List.getElem_of_mem hs
  have := g.few i
  unfold nx at this
  rw [List.getElem?_eq_getElem hi] at this
  simp at this
  omega
theorem specReach (l : List Step) (h : progB l = true) : ∃ R, IsRch l R ∧ Ev (fun n => spec_FlowReach.f n l) R := by
  have g := good_of l h
  obtain ⟨R, hR, hE⟩ := specReachL0 l g l.length _ (inv_start l g) (by omega)
  refine ⟨R, hR, ?_⟩
  unfold spec_FlowReach.f
  have hok := specOk l (lens_of l h).1 (lens_of l h).2
  rw [h] at hok
  refine Ev.bind hok ?_
  refine Ev.congr (fun n => ?_) hE
  rw [if_pos rfl, if_pos (by omega), if_pos (by have := g.le; omega)]
  simp only [Option.bind_some, List.length_replicate]
  rw [if_pos (by have := g.pos; omega)]
  rfl

/-! ### the program -/
theorem implReachL1 (l : List Step) (g : Good l) (i : Nat) : ∀ (d : Nat) (k : Int) (o : List Bool) (st : List Int), 0 ≤ k → ((nx l i).length : Int) - k = d → Inv l o → T o i →
    (∀ x ∈ st, 0 ≤ x ∧ x < (l.length : Int) ∧ T o x.toNat) → 2 * (l.length - o.count true) + st.length ≤ 1000 →
    ∃ o' st', Inv l o' ∧ (∀ j, T o j → T o' j) ∧ (∀ x ∈ (nx l i).drop k.toNat, T o' x.toNat) ∧ (∀ j, T o' j → T o j ∨ (j : Int) ∈ st') ∧ (∀ x ∈ st, x ∈ st') ∧
      (∀ x ∈ st', 0 ≤ x ∧ x < (l.length : Int) ∧ T o' x.toNat) ∧ 2 * (l.length - o'.count true) + st'.length ≤ 2 * (l.length - o.count true) + st.length ∧
      ∀ r, Ev (fun n => impl_Prog_reach.l0 n o' st' l) r → Ev (fun n => impl_Prog_reach.l1 n o st (nx l i) ((nx l i).length : Int) k l) r
  | 0, k, o, st, hk, hd, hI, hT, hst, hm => by
    refine ⟨o, st, hI, fun _ h => h, fun x hx => ?_, fun j h => .inl h, fun _ h => h, hst, Nat.le_refl _, fun r hr => ?_⟩
    · rw [List.drop_eq_nil_of_le (by omega)] at hx
      simp at hx
    · refine Ev.step (fun n => ?_) hr
      simp only [impl_Prog_reach.l1]
      rw [if_neg (by omega)]
  | d + 1, k, o, st, hk, hd, hI, hT, hst, hm => by
    have hlt : k < ((nx l i).length : Int) := by omega
    have hx := rd_mem _ k hk hlt
    have hx2 := g.nxt _ _ hx
    have hlen := hI.len
    have hwk : wrap64 (k + 1) = k + 1 := wrap_id (by omega) (by have := g.few i; omega)
    by_cases hb : rdOf false o (rd (nx l i) k) = true
    · obtain ⟨o', st', h1, h2, h3, h4, h5, h6, h7, h8⟩ := implReachL1 l g i d (k + 1) o st (by omega) (by omega) hI hT hst hm
      refine ⟨o', st', h1, h2, fun x hxm => ?_, h4, h5, h6, h7, fun r hr => ?_⟩
      · rw [drop_get _ k hk hlt] at hxm
        rcases List.mem_cons.1 hxm with rfl | hxm
        · exact h2 _ ((rd_T o _).1 hb)
        · exact h3 x hxm
      · refine Ev.step (fun n => ?_) (h8 r hr)
        simp only [impl_Prog_reach.l1]
        rw [if_pos hlt, if_pos hk, if_pos hlt, if_pos hx2.1, if_pos (by omega), if_pos hb, hwk]
    · have hI' := hI.set g hT hx
      have hc := count_set (o := o) (j := (rd (nx l i) k).toNat) (by omega) (fun h => hb ((rd_T o _).2 h))
      have hle : (o.set (rd (nx l i) k).toNat true).count true ≤ l.length := by
        have := List.count_le_length (a := true) (l := o.set (rd (nx l i) k).toNat true)
        rw [List.length_set] at this
        omega
      have hself : T (o.set (rd (nx l i) k).toNat true) (rd (nx l i) k).toNat := T_set_self (by omega)
      obtain ⟨o', st', h1, h2, h3, h4, h5, h6, h7, h8⟩ := implReachL1 l g i d (k + 1) (o.set (rd (nx l i) k).toNat true) (st ++ [rd (nx l i) k]) (by omega) (by omega) hI' (T_set hT)
        (fun x hxm => by
          rcases List.mem_append.1 hxm with hxm | hxm
          · obtain ⟨a, b, c⟩ := hst x hxm
            exact ⟨a, b, T_set c⟩
          · rw [List.mem_singleton.1 hxm]
            exact ⟨hx2.1, hx2.2, hself⟩) (by simp; omega)
      refine ⟨o', st', h1, fun j hj => h2 j (T_set hj), fun x hxm => ?_, fun j hj => ?_, fun x hxm => h5 x (by simp [hxm]), h6, by simp at h7; omega, fun r hr => ?_⟩
      · rw [drop_get _ k hk hlt] at hxm
        rcases List.mem_cons.1 hxm with rfl | hxm
        · exact h2 _ hself
        · exact h3 x hxm
      · rcases h4 j hj with h | h
        · rcases T_of_set h with rfl | h
          · refine .inr ?_
            rw [Int.toNat_of_nonneg hx2.1]
            exact h5 _ (by simp)
          · exact .inl h
        · exact .inr h
      · refine Ev.step (fun n => ?_) (h8 r hr)
        simp only [impl_Prog_reach.l1]
        rw [if_pos hlt, if_pos hk, if_pos hlt, if_pos hx2.1, if_pos (by omega), if_neg hb, if_pos (by omega), hwk]
theorem implReachL0 (l : List Step) (g : Good l) : ∀ (m : Nat) (o : List Bool) (st : List Int), Inv l o → (∀ x ∈ st, 0 ≤ x ∧ x < (l.length : Int) ∧ T o x.toNat) →
    (∀ j, T o j → (j : Int) ∈ st ∨ ∀ x ∈ nx l j, T o x.toNat) → 2 * (l.length - o.count true) + st.length ≤ m → m ≤ 1000 → ∃ R, IsRch l R ∧ Ev (fun n => impl_Prog_reach.l0 n o st l) R
  | m, o, st, hI, hst, hcl, hm, hm' => by
    by_cases he : st = []
    · subst he
      refine ⟨o, hI.done (fun i hi => ?_), ev_const 1 (fun n => ?_)⟩
      · rcases hcl i hi with h | h
        · simp at h
        · exact h
      · simp [impl_Prog_reach.l0]
    · obtain ⟨st0, x, rfl⟩ : ∃ st0 x, st = st0 ++ [x] := ⟨st.dropLast, st.getLast he, (List.dropLast_concat_getLast he).symm⟩
      obtain ⟨hx0, hx1, hxT⟩ := hst x (by simp)
      cases m with
      | zero => simp at hm
      | succ m =>
        have hlast : rd (st0 ++ [x]) (((st0 ++ [x]).length : Int) - 1) = x := by
          unfold rd
          rw [show ((((st0 ++ [x]).length : Int) - 1)).toNat = st0.length by simp]
          simp
        have htake : (st0 ++ [x]).take ((((st0 ++ [x]).length : Int) - 1)).toNat = st0 := by
          rw [show ((((st0 ++ [x]).length : Int) - 1)).toNat = st0.length by simp]
          simp
        obtain ⟨o', st', h1, h2, h3, h4, h5, h6, h7, h8⟩ := implReachL1 l g x.toNat (nx l x.toNat).length 0 o st0 (by omega) (by omega) hI hxT (fun y hy => hst y (by simp [hy])) (by simp at hm; omega)
        obtain ⟨R, hR, hE⟩ := implReachL0 l g m o' st' h1 h6 (fun j hj => by
          rcases h4 j hj with h | h
          · rcases hcl j h with h' | h'
            · rcases List.mem_append.1 h' with h' | h'
              · exact .inl (h5 _ h')
              · have e : j = x.toNat := by have := List.mem_singleton.1 h'; omega
                subst e
                exact .inr (fun y hy => h3 y (by simpa using hy))
            · exact .inr (fun y hy => h2 _ (h' y hy))
          · exact .inl h) (by simp at hm; omega) (by omega)
        refine ⟨R, hR, Ev.step (fun n => ?_) (h8 R hE)⟩
        have hw : wrap64 (((st0 ++ [x]).length : Int) - 1) = ((st0 ++ [x]).length : Int) - 1 := wrap_id (by omega) (by simp at hm ⊢; omega)
        have hpos : ((st0 ++ [x]).length : Int) > 0 := by rw [List.length_append, List.length_singleton]; omega
        simp only [impl_Prog_reach.l0]
        rw [hw, hlast, htake, nx_eq l x hx0 hx1, if_pos hpos, if_pos (by omega), if_pos (by omega), if_pos (by omega), if_pos hx0, if_pos hx1]
theorem implReach (l : List Step) (h : progB l = true) : ∃ R, IsRch l R ∧ Ev (fun n => impl_Prog_reach.f n l) R := by
  have g := good_of l h
  have hI := inv_start l g
  obtain ⟨R, hR, hE⟩ := implReachL0 l g 1000 _ [0] hI (fun x hx => by
    rw [List.mem_singleton.1 hx]
    exact ⟨by omega, by have := g.pos; omega, hI.zero⟩) (fun j hj => by
    rcases T_of_set hj with rfl | hj
    · exact .inl (by simp)
    · unfold T at hj
      rw [List.getElem?_replicate] at hj
      split at hj <;> simp at hj) (by have := g.le; simp; omega) (by omega)
  refine ⟨R, hR, ?_⟩
  unfold impl_Prog_reach.f
  refine Ev.congr (fun n => ?_) hE
  rw [if_pos (by omega), if_pos (by have := g.le; omega)]
  simp only [Option.bind_some, List.length_replicate]
  rw [if_pos (by have := g.pos; omega)]
  rfl
end Go.Proofs.Ytkehjekbglajhaa.Pure
