/- FlowPreds: what a step may come behind; the reference asks each step, the program tells each step's successors. -/
import Derived.Test.YtkehjekbglajhaaK1PureReach
import Derived.Test.YtkehjekbglajhaaK1PureLoops
import Derived.Test.YtkehjekbglajhaaK1F9
namespace Go.Proofs.Ytkehjekbglajhaa.Pure
open Go.RowKit Go.Proofs.Ytkehjekbglajhaa.F Go.Proofs.YtkehjekbglajhaaW.PrintWords Go.Proofs.YtkehjekbglajhaaW.PrintLast

/-- The steps under m that can be come to and lead to j, ascending. -/
def preB (l : List Step) (R : List Bool) (m j : Nat) : Bool := R.getD m false && (nx l m).contains (j : Int)
def pre (l : List Step) (R : List Bool) (m j : Nat) : List Int := ((List.range m).filter fun k => preB l R k j).map fun k : Nat => (k : Int)
theorem pre_zero (l : List Step) (R : List Bool) (j : Nat) : pre l R 0 j = [] := rfl
theorem pre_succ (l : List Step) (R : List Bool) (m j : Nat) : pre l R (m + 1) j = pre l R m j ++ (if preB l R m j then [(m : Int)] else []) := by
  unfold pre
  rw [List.range_succ, List.filter_append, List.map_append, List.filter_cons]
  cases preB l R m j <;> rfl
theorem pre_lt (l : List Step) (R : List Bool) (m j : Nat) : ∀ x ∈ pre l R m j, 0 ≤ x ∧ x < (m : Int) := by
  intro x hx
  obtain ⟨k, hk, rfl⟩ := List.mem_map.1 hx
  have := List.mem_range.1 (List.mem_filter.1 hk).1
  omega
theorem pre_len (l : List Step) (R : List Bool) (m j : Nat) : (pre l R m j).length ≤ m := by
  unfold pre
  rw [List.length_map]
  exact Nat.le_trans (List.length_filter_le _ _) (by simp)
theorem mem_pre {l : List Step} {R : List Bool} {m j : Nat} {x : Int} : x ∈ pre l R m j ↔ 0 ≤ x ∧ x < (m : Int) ∧ T R x.toNat ∧ (j : Int) ∈ nx l x.toNat := by
  unfold pre preB
  constructor
  · intro hx
    obtain ⟨k, hk, rfl⟩ := List.mem_map.1 hx
    obtain ⟨h1, h2⟩ := List.mem_filter.1 hk
    simp only [Bool.and_eq_true, List.contains_iff_mem] at h2
    have h3 := List.mem_range.1 h1
    refine ⟨by omega, by omega, ?_, by simpa using h2.2⟩
    have := h2.1
    rw [List.getD_eq_getElem?_getD] at this
    unfold T
    rw [show ((k : Int)).toNat = k by omega]
    cases hk' : R[k]? with
    | none => rw [hk'] at this; simp at this
    | some b => rw [hk'] at this; simp at this; rw [this]
  · rintro ⟨h0, h1, h2, h3⟩
    refine List.mem_map.2 ⟨x.toNat, List.mem_filter.2 ⟨List.mem_range.2 (by omega), ?_⟩, by omega⟩
    unfold T at h2
    simp only [Bool.and_eq_true, List.contains_iff_mem, List.getD_eq_getElem?_getD, h2, Option.getD_some, true_and]
    exact h3
/-- All rows of predecessors. -/
def predRows (l : List Step) (R : List Bool) : List (List Int) := (List.range l.length).map fun j => pre l R l.length j
theorem predRows_len (l : List Step) (R : List Bool) : (predRows l R).length = l.length := by simp [predRows]
theorem predRows_get (l : List Step) (R : List Bool) (j : Nat) (hj : j < l.length) : (predRows l R)[j]? = some (pre l R l.length j) := by
  unfold predRows
  rw [List.getElem?_map, List.getElem?_range hj]
  rfl
theorem rd_L2_get {o : List (List Int)} {j : Int} {x : List Int} (h : o[j.toNat]? = some x) : rd_L2 o j = x := by
  unfold rd_L2
  rw [List.getD_eq_getElem?_getD, h]
  rfl
theorem rdOf_getD (R : List Bool) (i : Nat) : rdOf false R (i : Int) = R.getD i false := rfl

/-! ### the reference -/
theorem goesEv (t : Int) (xs : List Int) (hl : xs.length ≤ 1000) (a0 a1 a2 a3 a4 a5 a6 : Int) : Ev (fun k => spec_l2Goes.f k a0 a1 a2 a3 a4 a5 a6 xs t) (xs.contains t) := by
  unfold spec_l2Goes.f
  obtain ⟨r, hr, hq⟩ := ev_loop (g := fun k (i : Int) => spec_l2Goes.l0 k t i a0 a1 a2 a3 a4 a5 a6 xs) (fun i => 0 ≤ i ∧ i ≤ xs.length ∧ (xs.drop i.toNat).contains t = xs.contains t) (fun i => (xs.length - i).toNat) (fun r => r = xs.contains t)
    (fun i ⟨h0, h1, h2⟩ => by
      by_cases hlt : i < (xs.length : Int)
      · have hd := drop_get xs i h0 hlt
        by_cases e : rd xs i = t
        · refine .inr ⟨true, ev_const 1 (fun k => ?_), ?_⟩
          · simp only [spec_l2Goes.l0]
            rw [if_pos hlt, if_pos h0, if_pos e]
          · rw [← h2, hd, ← e]
            simp
        · refine .inl ⟨i + 1, ⟨by omega, by omega, ?_⟩, by omega, Leads.step (fun k => ?_)⟩
          · rw [← h2, hd, List.contains_cons, beq_eq_false_iff_ne.mpr (Ne.symm e), Bool.false_or]
          · simp only [spec_l2Goes.l0]
            rw [if_pos hlt, if_pos h0, if_neg e, wrap_id (by omega) (by omega)]
      · refine .inr ⟨false, ev_const 1 (fun k => ?_), ?_⟩
        · simp only [spec_l2Goes.l0]
          rw [if_neg hlt]
        · rw [← h2, List.drop_eq_nil_of_le (by omega)]
          rfl) 0 ⟨by omega, by omega, by simp⟩
  rw [← hq]
  exact hr
theorem nx_of (l : List Step) (k : Nat) (hk : k < l.length) : (rd_T68 l (k : Int)).f5 = nx l k := by
  have := nx_eq l k (by omega) (by omega)
  simpa using this
theorem specPredsL1 (l : List Step) (g : Good l) (R : List Bool) (hR : R.length = l.length) (j : Nat) (hj : j < l.length) (x3 : List (List Int)) (hx : x3.length < 5864062014805) :
    Leads (fun k => spec_FlowPreds.l1 k x3 R (j : Int) [] 0 l) (fun k => spec_FlowPreds.l0 k (x3 ++ [pre l R l.length j]) R ((j : Int) + 1) l) := by
  have hle := g.le
  obtain ⟨x6, hI, hL⟩ := leads_to (g := fun k i (s : List Int) => spec_FlowPreds.l1 k x3 R (j : Int) s i l) (n := l.length) (by omega) (fun i s => s = pre l R i.toNat j) (fun i s h0 h1 hs => by
    subst hs
    have hi : i.toNat < l.length := by omega
    have ei : ((i.toNat : Nat) : Int) = i := by omega
    have hw : wrap64 (i + 1) = i + 1 := wrap_id (by omega) (by omega)
    refine ⟨_, rfl, ?_⟩
    rw [show (i + 1).toNat = i.toNat + 1 by omega, pre_succ]
    have hn := nx_of l i.toNat hi
    rw [ei] at hn
    have hrd : rdOf false R i = R.getD i.toNat false := rfl
    cases hb : R.getD i.toNat false with
    | false =>
      have hp : preB l R i.toNat j = false := by unfold preB; rw [hb]; rfl
      rw [hp]
      refine Leads.step (fun k => ?_)
      simp only [spec_FlowPreds.l1]
      rw [if_pos h1, if_pos h0, if_pos (by omega), hrd, hb, if_neg (by decide), hw]
      simp
    | true =>
      have hp : preB l R i.toNat j = (nx l i.toNat).contains (j : Int) := by unfold preB; rw [hb]; rfl
      rw [hp]
      have hg := goesEv (j : Int) (nx l i.toNat) (by have := g.few i.toNat; omega) ((rd_T68 l i).f0) ((rd_T68 l i).f1) ((rd_T68 l i).f2) ((rd_T68 l i).f3.f0) ((rd_T68 l i).f3.f1) ((rd_T68 l i).f4.f0) ((rd_T68 l i).f4.f1)
      have hlp := pre_len l R i.toNat j
      refine Leads.trans (Leads.step (h := fun k => (spec_l2Goes.f k ((rd_T68 l i).f0) ((rd_T68 l i).f1) ((rd_T68 l i).f2) ((rd_T68 l i).f3.f0) ((rd_T68 l i).f3.f1) ((rd_T68 l i).f4.f0) ((rd_T68 l i).f4.f1) (nx l i.toNat) (j : Int)).bind fun t => if t = true then spec_FlowPreds.l1 k x3 R (j : Int) (pre l R i.toNat j ++ [i]) (i + 1) l else spec_FlowPreds.l1 k x3 R (j : Int) (pre l R i.toNat j) (i + 1) l) (fun k => ?_)) (Leads.trans (Leads.bind hg) ?_)
      · simp only [spec_FlowPreds.l1]
        rw [if_pos h1, if_pos h0, if_pos (by omega), hrd, hb, if_pos rfl, hn, hw]
        simp only [if_pos (show (pre l R i.toNat j).length < 17592186044416 by omega)]
      · rw [ei]
        cases (nx l i.toNat).contains (j : Int)
        · exact Leads.congr (fun k => by simp)
        · exact Leads.congr (fun k => by simp)) [] (by rw [show (0 : Int).toNat = 0 from rfl, pre_zero])
  subst hI
  refine hL.trans (Leads.step (fun k => ?_))
  simp only [spec_FlowPreds.l1]
  rw [if_neg (by omega), if_pos hx, wrap_id (by omega) (by omega)]
  rfl
theorem range_map_succ {α : Type} (f : Nat → α) (n : Nat) : (List.range (n + 1)).map f = (List.range n).map f ++ [f n] := by
  rw [List.range_succ, List.map_append]
  rfl
theorem specPreds (l : List Step) (h : progB l = true) (R : List Bool) (hR : IsRch l R) : Ev (fun k => spec_FlowPreds.f k l) (predRows l R) := by
  have g := good_of l h
  have hle := g.le
  obtain ⟨R', hR', hE⟩ := specReach l h
  obtain rfl := hR.unique hR'
  unfold spec_FlowPreds.f
  have hok := specOk l (lens_of l h).1 (lens_of l h).2
  rw [h] at hok
  simp only [Option.bind_some]
  refine Ev.bind hok (Ev.congr (fun k => by rw [if_pos rfl]) (Ev.bind hE ?_))
  obtain ⟨s, hI, hL⟩ := leads_to (g := fun k i (s : List (List Int)) => spec_FlowPreds.l0 k s R i l) (n := l.length) (by omega) (fun i s => s = (List.range i.toNat).map fun j => pre l R l.length j) (fun i s h0 h1 hs => by
    subst hs
    refine ⟨_, rfl, ?_⟩
    have hL := specPredsL1 l g R hR.len i.toNat (by omega) ((List.range i.toNat).map fun j => pre l R l.length j) (by simp; omega)
    rw [show ((i.toNat : Nat) : Int) = i by omega] at hL
    rw [show (i + 1).toNat = i.toNat + 1 by omega, range_map_succ]
    refine Leads.trans (Leads.step (fun k => ?_)) hL
    simp only [spec_FlowPreds.l0]
    rw [if_pos h1]) [] rfl
  subst hI
  refine hL _ (ev_const 1 (fun k => ?_))
  simp only [spec_FlowPreds.l0]
  rw [if_neg (by omega)]
  rfl

/-! ### the program -/
theorem containsEv (xs : List Int) (v : Int) (hl : xs.length ≤ 1000) : Ev (fun k => slices_Contains_int_int.f k xs v) (xs.contains v) := by
  unfold slices_Contains_int_int.f slices_Index_int_int.f
  obtain ⟨r, hr, hq⟩ := ev_loop (g := fun k (i : Int) => slices_Index_int_int.l0 k xs v (xs.length : Int) i) (fun i => 0 ≤ i ∧ i ≤ xs.length ∧ (xs.drop i.toNat).contains v = xs.contains v) (fun i => (xs.length - i).toNat) (fun r => decide (r ≥ 0) = xs.contains v)
    (fun i ⟨h0, h1, h2⟩ => by
      by_cases hlt : i < (xs.length : Int)
      · have hd := drop_get xs i h0 hlt
        by_cases e : v = rd xs i
        · refine .inr ⟨i, ev_const 1 (fun k => ?_), ?_⟩
          · simp only [slices_Index_int_int.l0]
            rw [if_pos hlt, if_pos h0, if_pos hlt, if_pos e]
          · rw [← h2, hd, ← e]
            simp [h0]
        · refine .inl ⟨i + 1, ⟨by omega, by omega, ?_⟩, by omega, Leads.step (fun k => ?_)⟩
          · rw [← h2, hd, List.contains_cons, beq_eq_false_iff_ne.mpr e, Bool.false_or]
          · simp only [slices_Index_int_int.l0]
            rw [if_pos hlt, if_pos h0, if_pos hlt, if_neg e, wrap_id (by omega) (by omega)]
      · refine .inr ⟨-1, ev_const 1 (fun k => ?_), ?_⟩
        · simp only [slices_Index_int_int.l0]
          rw [if_neg hlt]
        · rw [← h2, List.drop_eq_nil_of_le (by omega)]
          rfl) 0 ⟨by omega, by omega, by simp⟩
  exact Ev.bind hr (ev_const 0 (fun k => by rw [hq]))
/-- Row j, when the steps under i are told, and of i the first q successors. -/
def mid (l : List Step) (R : List Bool) (i q j : Nat) : List Int := pre l R i j ++ (if ((nx l i).take q).contains (j : Int) then [(i : Int)] else [])
theorem implPredsL1 (l : List Step) (g : Good l) (R : List Bool) (hR : R.length = l.length) (i : Nat) (hi : i < l.length) (hTi : R.getD i false = true) (o : List (List Int)) (ho : o.length = l.length ∧ ∀ j < l.length, o[j]? = some (pre l R i j)) :
    ∃ o', (o'.length = l.length ∧ ∀ j < l.length, o'[j]? = some (pre l R (i + 1) j)) ∧ Leads (fun k => impl_Prog_preds.l1 k o (i : Int) R (l.length : Int) (i : Int) (nx l i) ((nx l i).length : Int) 0 l) (fun k => impl_Prog_preds.l0 k o' R (l.length : Int) ((i : Int) + 1) l) := by
  have hle := g.le
  have hfew := g.few i
  obtain ⟨o', ⟨hl', hI⟩, hL⟩ := leads_to (g := fun k q (s : List (List Int)) => impl_Prog_preds.l1 k s (i : Int) R (l.length : Int) (i : Int) (nx l i) ((nx l i).length : Int) q l) (n := (nx l i).length) (by omega) (fun q s => s.length = l.length ∧ ∀ j < l.length, s[j]? = some (mid l R i q.toNat j)) (fun q s h0 h1 ⟨hs, hsj⟩ => by
    have hw : wrap64 (q + 1) = q + 1 := wrap_id (by omega) (by omega)
    have hm := rd_mem (nx l i) q h0 h1
    obtain ⟨b0, b1⟩ := g.nxt i _ hm
    have ht : (nx l i).take (q + 1).toNat = (nx l i).take q.toNat ++ [rd (nx l i) q] := by
      rw [show (q + 1).toNat = q.toNat + 1 by omega, List.take_succ_eq_append_getElem (by omega)]
      obtain ⟨hq, e⟩ := int_get (nx l i) q h0 h1
      rw [e]
    have hj := hsj (rd (nx l i) q).toNat (by omega)
    have hrow := rd_L2_get hj
    have hml : (mid l R i q.toNat (rd (nx l i) q).toNat).length ≤ 100 := by
      unfold mid
      rw [List.length_append]
      have := pre_len l R i (rd (nx l i) q).toNat
      split <;> simp <;> omega
    have hc := containsEv (mid l R i q.toNat (rd (nx l i) q).toNat) (i : Int) (by omega)
    have hcv : (mid l R i q.toNat (rd (nx l i) q).toNat).contains (i : Int) = ((nx l i).take q.toNat).contains (rd (nx l i) q) := by
      unfold mid
      rw [show (((rd (nx l i) q).toNat : Nat) : Int) = rd (nx l i) q by omega, Bool.eq_iff_iff]
      simp only [List.contains_iff_mem, List.mem_append]
      constructor
      · rintro (h | h)
        · have := pre_lt l R i _ _ h
          omega
        · split at h
          · assumption
          · simp at h
      · intro h
        rw [if_pos h]
        exact .inr (by simp)
    rw [hcv] at hc
    -- the row behind this round
    have hstep : ∀ j < l.length, mid l R i (q + 1).toNat j = if (j : Int) = rd (nx l i) q ∧ ((nx l i).take q.toNat).contains (rd (nx l i) q) = false then mid l R i q.toNat j ++ [(i : Int)] else mid l R i q.toNat j := by
      intro j hjl
      unfold mid
      rw [ht]
      by_cases e : (j : Int) = rd (nx l i) q
      · rw [e]
        cases hcc : ((nx l i).take q.toNat).contains (rd (nx l i) q) with
        | true =>
          have h1 : ((nx l i).take q.toNat ++ [rd (nx l i) q]).contains (rd (nx l i) q) = true := by simp
          rw [h1]
          simp
        | false =>
          have h1 : ((nx l i).take q.toNat ++ [rd (nx l i) q]).contains (rd (nx l i) q) = true := by simp
          rw [h1]
          simp
      · have h1 : ((nx l i).take q.toNat ++ [rd (nx l i) q]).contains (j : Int) = ((nx l i).take q.toNat).contains (j : Int) := by
          rw [Bool.eq_iff_iff]
          simp [e]
        rw [h1]
        simp [e]
    cases hcc : ((nx l i).take q.toNat).contains (rd (nx l i) q) with
    | true =>
      rw [hcc] at hc
      refine ⟨s, ⟨hs, fun j hjl => by rw [hsj j hjl, hstep j hjl, hcc]; simp⟩, ?_⟩
      refine Leads.trans (Leads.step (h := fun k => (slices_Contains_int_int.f k (mid l R i q.toNat (rd (nx l i) q).toNat) (i : Int)).bind fun t => if t = true then impl_Prog_preds.l1 k s (i : Int) R (l.length : Int) (i : Int) (nx l i) ((nx l i).length : Int) (q + 1) l else if (mid l R i q.toNat (rd (nx l i) q).toNat).length < 17592186044416 then impl_Prog_preds.l1 k (s.set (rd (nx l i) q).toNat (mid l R i q.toNat (rd (nx l i) q).toNat ++ [(i : Int)])) (i : Int) R (l.length : Int) (i : Int) (nx l i) ((nx l i).length : Int) (q + 1) l else none) (fun k => ?_)) (Leads.trans (Leads.bind hc) (Leads.congr (fun k => by rw [if_pos rfl])))
      simp only [impl_Prog_preds.l1]
      rw [if_pos h1, if_pos h0, if_pos h1, if_pos b0, if_pos (by omega), hrow, hw]
    | false =>
      rw [hcc] at hc
      refine ⟨s.set (rd (nx l i) q).toNat (mid l R i q.toNat (rd (nx l i) q).toNat ++ [(i : Int)]), ⟨by rw [List.length_set]; exact hs, fun j hjl => ?_⟩, ?_⟩
      · rw [hstep j hjl, hcc, List.getElem?_set]
        by_cases e : (rd (nx l i) q).toNat = j
        · subst e
          rw [if_pos rfl, if_pos (by omega), if_pos ⟨by omega, rfl⟩]
        · rw [if_neg e, if_neg (by omega)]
          exact hsj j hjl
      refine Leads.trans (Leads.step (h := fun k => (slices_Contains_int_int.f k (mid l R i q.toNat (rd (nx l i) q).toNat) (i : Int)).bind fun t => if t = true then impl_Prog_preds.l1 k s (i : Int) R (l.length : Int) (i : Int) (nx l i) ((nx l i).length : Int) (q + 1) l else if (mid l R i q.toNat (rd (nx l i) q).toNat).length < 17592186044416 then impl_Prog_preds.l1 k (s.set (rd (nx l i) q).toNat (mid l R i q.toNat (rd (nx l i) q).toNat ++ [(i : Int)])) (i : Int) R (l.length : Int) (i : Int) (nx l i) ((nx l i).length : Int) (q + 1) l else none) (fun k => ?_)) (Leads.trans (Leads.bind hc) (Leads.congr (fun k => by rw [if_neg (by decide), if_pos (by omega)])))
      simp only [impl_Prog_preds.l1]
      rw [if_pos h1, if_pos h0, if_pos h1, if_pos b0, if_pos (by omega), hrow, hw]) o ⟨ho.1, fun j hj => by rw [ho.2 j hj]; unfold mid; simp⟩
  refine ⟨o', ⟨hl', fun j hj => ?_⟩, hL.trans (Leads.step (fun k => ?_))⟩
  · rw [hI j hj, pre_succ]
    unfold mid preB
    rw [hTi, show (((nx l i).length : Nat) : Int).toNat = (nx l i).length by omega, List.take_length, Bool.true_and]
  · simp only [impl_Prog_preds.l1]
    rw [if_neg (by omega), wrap_id (by omega) (by omega)]
theorem implPreds (l : List Step) (h : progB l = true) (R : List Bool) (hR : IsRch l R) : Ev (fun k => impl_Prog_preds.f k l) (predRows l R) := by
  have g := good_of l h
  have hle := g.le
  obtain ⟨R', hR', hE⟩ := implReach l h
  obtain rfl := hR.unique hR'
  unfold impl_Prog_preds.f
  refine Ev.congr (fun k => by rw [if_pos (by omega), if_pos (by omega)]) (Ev.bind hE ?_)
  have hRl := hR.len
  rw [hRl]
  obtain ⟨s, ⟨hl, hI⟩, hL⟩ := leads_to (g := fun k i (s : List (List Int)) => impl_Prog_preds.l0 k s R (l.length : Int) i l) (n := l.length) (by omega) (fun i s => s.length = l.length ∧ ∀ j < l.length, s[j]? = some (pre l R i.toNat j)) (fun i s h0 h1 hs => by
    have hi : i.toNat < l.length := by omega
    have ei : ((i.toNat : Nat) : Int) = i := by omega
    have hn : (rd_T68 l i).f5 = nx l i.toNat := nx_eq l i h0 h1
    have hrd : rdOf false R i = R.getD i.toNat false := rfl
    cases hb : R.getD i.toNat false with
    | false =>
      refine ⟨s, ⟨hs.1, fun j hj => ?_⟩, Leads.step (fun k => ?_)⟩
      · rw [hs.2 j hj, show (i + 1).toNat = i.toNat + 1 by omega, pre_succ]
        unfold preB
        rw [hb]
        simp
      · simp only [impl_Prog_preds.l0]
        rw [if_pos h1, if_pos h0, if_pos (by omega), hrd, hb, if_neg (by decide), wrap_id (by omega) (by omega)]
    | true =>
      obtain ⟨o', ho', hL⟩ := implPredsL1 l g R hRl i.toNat hi hb s hs
      rw [ei] at hL
      refine ⟨o', ⟨ho'.1, fun j hj => by rw [ho'.2 j hj, show (i + 1).toNat = i.toNat + 1 by omega]⟩, Leads.trans (Leads.step (fun k => ?_)) hL⟩
      simp only [impl_Prog_preds.l0]
      rw [if_pos h1, if_pos h0, if_pos (by omega), hrd, hb, if_pos rfl, if_pos (by omega), hn]) (List.replicate ((l.length : Int)).toNat []) ⟨by simp, fun j hj => by
    rw [List.getElem?_replicate, if_pos (by omega)]
    rfl⟩
  obtain rfl : s = predRows l R := by
    apply List.ext_getElem?
    intro j
    by_cases hj : j < l.length
    · rw [hI j hj, predRows_get l R j hj]
      rfl
    · rw [List.getElem?_eq_none (by omega), List.getElem?_eq_none (by rw [predRows_len]; omega)]
  refine hL _ (ev_const 1 (fun k => ?_))
  simp only [impl_Prog_preds.l0]
  rw [if_neg (by omega)]
end Go.Proofs.Ytkehjekbglajhaa.Pure
