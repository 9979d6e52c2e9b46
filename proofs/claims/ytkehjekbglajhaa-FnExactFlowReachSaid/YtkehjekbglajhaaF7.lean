-- printed by wip/myprint.py, a program that runs the kit's print.py patched in memory; hand-made contracts stand where that program has none. Not trusted: Lean checks it.
import Derived.Test.YtkehjekbglajhaaF0
namespace Go.Proofs.Ytkehjekbglajhaa.F
open Go.RowKit Go.Proofs.YtkehjekbglajhaaW.PrintWords Go.Proofs.YtkehjekbglajhaaW.PrintLast Go.Proofs.YtkehjekbglajhaaW.PrintMore
attribute [local go_sem] max2_int min2_int max_two min_two max_three min_three max_four min_four   -- for this text's walks alone
set_option linter.unusedVariables false
set_option linter.unusedSimpArgs false

/-! ### laws_markIntS: function 49 -/
def laws_markIntS.l0 : Nat → List Int → Int → Int → Option (Int × List Int)
 | 0, _, _, _ => none
 | k + 1, x0, x1, x5 => if x5 < (x0.length : Int) then (if 0 ≤ x5 then (laws_markIntS.l0 k (x0.set (x5 : Int).toNat x1) (wrap64 (x1 + 1)) (wrap64 (x5 + 1))) else (none)) else (some (x1, x0))
def laws_markIntS.f (k : Nat) (l0 : List Int) (a1 : Int) : Option (Int × List Int) := laws_markIntS.l0 k l0 a1 0
theorem laws_markIntS.mono_l : ∀ k, (∀ y0 y1 y2, LeO (laws_markIntS.l0 k y0 y1 y2) (laws_markIntS.l0 (k + 1) y0 y1 y2))
 | 0 => fun _ _ _ r h => by simp [laws_markIntS.l0] at h
 | k + 1 => by
  have ih0 := laws_markIntS.mono_l k
  ·intro y0 y1 y2
   unfold laws_markIntS.l0
   repeat' first
   | (with_reducible exact ih0 _ _ _)
   | (with_reducible exact LeO.refl _)
   | (with_reducible exact LeO.none _)
   | (with_reducible refine LeO.ite ?_ ?_)
   | (with_reducible refine LeO.bind ?_ (fun _ => ?_))
   | exact ih0 _ _ _
   | exact LeO.none _
   | refine LeO.ite ?_ ?_
   | refine LeO.bind ?_ (fun _ => ?_)
theorem laws_markIntS.mono : ∀ a0 a1 k, LeO (laws_markIntS.f k a0 a1) (laws_markIntS.f (k + 1) a0 a1) := by
 intro a0 a1 k
 have ih0 := laws_markIntS.mono_l k
 unfold laws_markIntS.f
 repeat' first
   | (with_reducible exact ih0 _ _ _)
   | (with_reducible exact LeO.refl _)
   | (with_reducible exact LeO.none _)
   | (with_reducible refine LeO.ite ?_ ?_)
   | (with_reducible refine LeO.bind ?_ (fun _ => ?_))
   | exact ih0 _ _ _
   | exact LeO.none _
   | refine LeO.ite ?_ ?_
   | refine LeO.bind ?_ (fun _ => ?_)
set_option maxHeartbeats 8000000 in
set_option maxRecDepth 100000 in
theorem laws_markIntS.calls (k : Nat) (P0_ : Nat → Prop) (u9000_ : Value) (l0 : List Int) (a1 : Int) (r1 : Int) (r2 : List Int) (w0 w : World) (hB : Below w0.heap.size w0 w) (ho0 : Kd.R (Kd.int .i64) 3 w w0.heap.size P0_ u9000_ l0) (h : laws_markIntS.f k l0 a1 = some (r1, r2)) :
  Calls Try.prog 49 #[u9000_, .int .i64 a1] w fun e w' => e = .returned (.int .i64 r1) ∧ Kd.R (Kd.int .i64) 3 w' w0.heap.size (fun k_ => (P0_ k_ ∨ w.heap.size ≤ k_)) u9000_ r2 ∧ Below w0.heap.size w0 w' ∧ Kept w w' (fun k_ => P0_ k_) := by
 have HO0 := Aside0.mk (show Kd.R (Kd.int .i64) 3 w w0.heap.size (fun k_ => (P0_ k_ ∨ w.heap.size ≤ k_)) u9000_ l0 from Kd.R_mono ho0 (fun k_ hk => (.inl hk)))
 have HK := Aside0.mk (Kept.refl w (fun k_ => P0_ k_))
 have HW0 := Aside0.mk hB.size
 have HB := Aside0.mk hB
 clear hB
 have H : (laws_markIntS.l0 k l0 a1 0) = some (r1, r2) := h
 clear h
 have H' := Aside0.mk H
 clear H
 go_enter Try.func49, Try.ntmps49
 go_wp2
 go_loopg [1, 5] k (fun kq v1 v5 w' => ∃ (x0_1 : List Int) (x1_1 : Int) (x5_1 : Int), v1 = .int .i64 x1_1 ∧ v5 = .int .i64 x5_1 ∧ Aside0 (laws_markIntS.l0 kq x0_1 x1_1 x5_1 = some (r1, r2)) ∧ Aside0 (kq ≤ k) ∧ Aside0 (Kd.R (Kd.int .i64) 3 w' w0.heap.size (fun k_ => (P0_ k_ ∨ w.heap.size ≤ k_)) u9000_ x0_1) ∧ Aside0 (Kept w w' (fun k_ => P0_ k_)) ∧ Aside0 (Below w0.heap.size w0 w'))
 case atStart => exact ⟨(l0), (a1), (0), (by first | rfl | (simp; done) | (simp [*]; done)), (by first | rfl | (simp; done) | (simp [*]; done)), H', ⟨Nat.le_refl _⟩, ⟨by (with_reducible repeat (first | apply Kd.R_alloc | apply Kd.R_drewN | apply Kd.R_drew)); exact HO0.out⟩, ⟨by repeat (first | (with_reducible first | exact HK.out | apply Kept.alloc | apply Kept.drewN | apply Kept.drew) | exact HK.out)⟩, ⟨bel HB.out⟩⟩
 case round =>
  clear H'
  try clear p2
  obtain ⟨x0_1, x1_1, x5_1, rfl, rfl, HA, HK1, HO_0, HK, HB⟩ := hrel
  cases gk with
  | zero => exact absurd HA.out (by simp [laws_markIntS.l0])
  | succ k1 =>
   have H := HA.out
   clear HA
   simp only [laws_markIntS.l0] at H
   by_cases c3 : x5_1 < (x0_1.length : Int)
   ·rw [if_pos c3] at H
    have c3b0 : decide (x5_1 < (x0_1.length : Int)) = true := decide_eq_true c3
    clear c3
    by_cases c4 : 0 ≤ x5_1
    ·rw [if_pos c4] at H
     have c4b0 : decide (0 ≤ x5_1) = true := decide_eq_true c4
     clear c4
     obtain ⟨y291, hy291⟩ : ∃ y_ : List Int, y_ = (x0_1.set (x5_1 : Int).toNat x1_1) := ⟨_, rfl⟩
     replace H : (laws_markIntS.l0 k1 y291 (wrap64 (x1_1 + 1)) (wrap64 (x5_1 + 1))) = some (r1, r2) := by first | (rw [hy291]; with_reducible exact H) | (have H2_ := (Option.bind_some _ _).symm.trans H; rw [hy291]; with_reducible exact H2_) | (have H2_ := (Option.bind_some _ _).symm.trans H; with_reducible exact H2_) | with_reducible exact H | (rw [hy291]; exact H) | exact H
     have Ny291 := Aside0.mk hy291
     clear hy291
     have H' := Aside0.mk H
     clear H
     obtain ⟨Ao6, co6, eo6⟩ := Kd.R_slice HO_0.out
     subst eo6
     have p5 : 0 ≤ (x5_1 : Int) := of_decide_eq_true (by first | (with_reducible assumption) | assumption)
     have q5 : (x5_1 : Int) < ((x0_1.length : Int) : Int) := of_decide_eq_true (by first | (with_reducible assumption) | assumption)
     obtain ⟨go5, co5, eo5, gb5, gl5, cl5, HG5⟩ := Kd.R_form HO_0.out (by omega)
     (first | cases eo5 | (injection eo5 with ea_ en_ ec_; (first | subst ea_ | (injection ea_ with ea_; subst ea_)); subst ec_; clear en_))
     have GB5 := Aside0.mk gb5
     have GG5 := Aside0.mk HG5
     clear gb5 gl5 HG5
     have HMgo5 := Aside0.mk (show (P0_ go5 ∨ w.heap.size ≤ go5) from (HO_0.out.1 _ rfl))
     obtain ⟨hx5_0, hf5_0⟩ := Kd.R_celln 0 HO_0.out (x5_1 : Int) p5 q5
     replace p5 := eq_true p5
     replace q5 := eq_true q5
     have HP7 := Kd.R_putg HO_0.out (x5_1 : Int) x1_1
     go_wp2_with (first | ((with_reducible refine gate_store (t := 3) (p := 15) rfl ?_); refine store_event (t := 3) (p := 15) (v := ?vo_w8) (w1 := (wr.setCell ⟨go5, (x5_1 : Int).toNat, none⟩ (.int .i64 x1_1))) ?hg ?ho ?hn ?hr ?_; (case ho => rfl); (case hg => rfl); (case hn => rfl); (case hr => first | (go_simp; done) | (go_simp; rfl)); intro w8 hw; have hg : wr.grownBy w8 (some go5) := (by rw [hw]; exact HP7.2); have hp_ : Kd.R (Kd.int .i64) 3 w8 w0.heap.size (fun k_ => (P0_ k_ ∨ w.heap.size ≤ k_)) (.slice (some ⟨go5, 0, none⟩) x0_1.length co6) y291 := (by rw [hw, Ny291.out]; exact HP7.1); clear HP7; have n0_ := Aside0.mk (hp_); have n1_ := Aside0.mk ((by rw [hw]; exact below_set (HB.out) GB5.out : Below w0.heap.size w0 w8)); have n2_ := Aside0.mk (Kept.of_grown (S := (fun k_ => P0_ k_)) hg (by repeat (first | (with_reducible first | exact HK.out | apply Kept.alloc | apply Kept.drewN | apply Kept.drew) | exact HK.out)) (fun k_ e_ => (HO_0.out.1 k_ e_))); clear HO_0; clear HB; clear HK; have HO_0 := n0_; have HB := n1_; have HK := n2_; clear n0_ n1_ n2_; clear hg hw hp_))
     go_roundg k1
     case measure => have := HK1.out; omega
     case rel => exact ⟨(y291), (wrap64 (x1_1 + 1)), (wrap64 (x5_1 + 1)), (by first | rfl | (simp; done) | (simp [*]; done)), (by first | rfl | (simp; done) | (simp [*]; done)), H', ⟨by have := HK1.out; omega⟩, ⟨by (with_reducible repeat (first | apply Kd.R_alloc | apply Kd.R_drewN | apply Kd.R_drew)); exact HO_0.out⟩, ⟨by repeat (first | (with_reducible first | exact HK.out | apply Kept.alloc | apply Kept.drewN | apply Kept.drew) | exact HK.out)⟩, ⟨bel HB.out⟩⟩
    ·rw [if_neg c4] at H
     exact absurd H (by simp)
   ·rw [if_neg c3] at H
    have c3b0 : decide (x5_1 < (x0_1.length : Int)) = false := decide_eq_false c3
    clear c3
    simp only [Option.some.injEq, Prod.mk.injEq] at H
    obtain ⟨rfl, rfl⟩ := H
    obtain ⟨Ao9, co9, eo9⟩ := Kd.R_slice HO_0.out
    subst eo9
    go_wp2
    go_ret
    exact ⟨by first | rfl | (simp [errW_none, errW_some] <;> rfl) | (simp [*, errW_none, errW_some] <;> rfl), by (with_reducible repeat (first | apply Kd.R_alloc | apply Kd.R_drewN | apply Kd.R_drew)); exact HO_0.out, bel HB.out, by repeat (first | (with_reducible first | exact HK.out | apply Kept.alloc | apply Kept.drewN | apply Kept.drew) | exact HK.out)⟩

/-! ### laws_markStepS: function 70 -/
/-- A row of steps of the call's own; of its elements only the lengths of the inner rows are told. -/
def SL (w : World) (base : Nat) (ok : Nat → Prop) (v : Value) (ls : List Nat) : Prop := ∃ xs, Kd.S k68 68 w base ok v xs ∧ xs.map (fun x => x.f5.length) = ls
theorem SL_len {w : World} {base : Nat} {ok : Nat → Prop} {v : Value} {ls : List Nat} (h : SL w base ok v ls) : ∃ A c, v = .slice A ls.length c := by
  obtain ⟨xs, hS, rfl⟩ := h
  obtain ⟨A, c, e⟩ := Kd.S_slice hS
  exact ⟨A, c, by rw [e, List.length_map]⟩
theorem SL_drewN {w : World} {base : Nat} {ok : Nat → Prop} {v : Value} {ls : List Nat} (h : SL w base ok v ls) (m : Nat) : SL (w.drewN m) base ok v ls := by
  obtain ⟨xs, hS, e⟩ := h
  exact ⟨xs, Kd.S_drewN hS m, e⟩
theorem SL_form {w : World} {base : Nat} {ok : Nat → Prop} {v : Value} {ls : List Nat} (h : SL w base ok v ls) (hp : 0 < ls.length) : ∃ g cap, v = .slice (some ⟨g, 0, none⟩) ls.length cap ∧ base ≤ g ∧ ok g := by
  obtain ⟨xs, hS, rfl⟩ := h
  obtain ⟨g, cap, e, hb, _, _⟩ := Kd.S_form hS (by rw [List.length_map] at hp; exact hp)
  refine ⟨g, cap, by rw [e, List.length_map], hb, (Kd.S_R hS).1 g ?_⟩
  rw [e]; rfl
theorem SL_at {w : World} {base : Nat} {ok : Nat → Prop} {ls : List Nat} {g n cap : Nat} (h : SL w base ok (.slice (some ⟨g, 0, none⟩) n cap) ls) (i : Int) (h0 : 0 ≤ i) (h1 : i < ls.length) :
    (∃ y0 y1 y2 y3 y4 y5 y6 : Int, (w.cell? ⟨g, i.toNat * 8, none⟩ = some (.int .i64 y0) ∧ w.cell? ⟨g, i.toNat * 8 + 1, none⟩ = some (.int .i64 y1) ∧ w.cell? ⟨g, i.toNat * 8 + 2, none⟩ = some (.int .i64 y2) ∧ w.cell? ⟨g, i.toNat * 8 + 3, none⟩ = some (.int .i64 y3) ∧ w.cell? ⟨g, i.toNat * 8 + 4, none⟩ = some (.int .i64 y4) ∧ w.cell? ⟨g, i.toNat * 8 + 5, none⟩ = some (.int .i64 y5) ∧ w.cell? ⟨g, i.toNat * 8 + 6, none⟩ = some (.int .i64 y6))) ∧
    ∀ j, w.frozen? ⟨g, i.toNat * 8 + j, none⟩ = false := by
  obtain ⟨xs, hS, rfl⟩ := h
  rw [List.length_map] at h1
  obtain ⟨rfl, _, _⟩ := Kd.S_reads' hS
  obtain ⟨oki, c, hcl, hM, hcc, hfr, _, _⟩ := Kd.S_elem hS z68 i h0 h1
  obtain ⟨v7, rfl, _⟩ := k68_openM hM
  exact ⟨⟨_, _, _, _, _, _, _, hcc 0 _ rfl, hcc 1 _ rfl, hcc 2 _ rfl, hcc 3 _ rfl, hcc 4 _ rfl, hcc 5 _ rfl, hcc 6 _ rfl⟩, hfr⟩
theorem SL_put {w : World} {base : Nat} {ok : Nat → Prop} {ls : List Nat} {g n cap : Nat} (h : SL w base ok (.slice (some ⟨g, 0, none⟩) n cap) ls) (i : Int) (h0 : 0 ≤ i) (h1 : i < ls.length) (j : Nat) (hj : j < 7) (u : Int) :
    SL (w.setCell ⟨g, i.toNat * 8 + j, none⟩ (.int .i64 u)) base ok (.slice (some ⟨g, 0, none⟩) n cap) ls ∧ w.grownBy (w.setCell ⟨g, i.toNat * 8 + j, none⟩ (.int .i64 u)) (some g) := by
  obtain ⟨xs, hS, rfl⟩ := h
  rw [List.length_map] at h1
  obtain ⟨rfl, _, _⟩ := Kd.S_reads' hS
  have hS' := Kd.S_mono (ok' := fun k => ok k ∧ ¬ (fun _ => False) k) hS (fun k hk => ⟨hk, id⟩)
  obtain ⟨oki, c, hcl, hM, hcc, hfr, hoki, hH⟩ := Kd.S_elem hS' z68 i h0 h1
  obtain ⟨v7, rfl, hR⟩ := k68_openM hM
  have fin : ∀ x' : S68, x'.f5 = (xs.getD i.toNat z68).f5 → Kd.S k68 68 (w.setCell ⟨g, i.toNat * 8 + j, none⟩ (.int .i64 u)) base ok (.slice (some ⟨g, 0, none⟩) xs.length cap) (xs.set i.toNat x') ∧ w.grownBy (w.setCell ⟨g, i.toNat * 8 + j, none⟩ (.int .i64 u)) (some g) →
      SL (w.setCell ⟨g, i.toNat * 8 + j, none⟩ (.int .i64 u)) base ok (.slice (some ⟨g, 0, none⟩) xs.length cap) (xs.map fun x => x.f5.length) ∧ w.grownBy (w.setCell ⟨g, i.toNat * 8 + j, none⟩ (.int .i64 u)) (some g) := by
    intro x' hx h
    refine ⟨⟨_, h.1, ?_⟩, h.2⟩
    have hi : i.toNat < xs.length := by omega
    rw [List.map_set, hx]
    apply List.ext_getElem?
    intro m
    rw [List.getElem?_set]
    by_cases hm : i.toNat = m
    · subst hm
      rw [if_pos rfl, if_pos (by rw [List.length_map]; exact hi), List.getElem?_map, List.getElem?_eq_getElem hi, List.getD_eq_getElem?_getD, List.getElem?_eq_getElem hi]
      rfl
    · rw [if_neg hm]
  have seg : ∀ x' : S68, x'.f5 = (xs.getD i.toNat z68).f5 → k68.M w base oki x' (List.take j [.int .i64 (xs.getD i.toNat z68).f0, .int .i64 (xs.getD i.toNat z68).f1, .int .i64 (xs.getD i.toNat z68).f2, .int .i64 (xs.getD i.toNat z68).f3.f0, .int .i64 (xs.getD i.toNat z68).f3.f1, .int .i64 (xs.getD i.toNat z68).f4.f0, .int .i64 (xs.getD i.toNat z68).f4.f1, v7] ++ [.int .i64 u] ++ List.drop (j + 1) [.int .i64 (xs.getD i.toNat z68).f0, .int .i64 (xs.getD i.toNat z68).f1, .int .i64 (xs.getD i.toNat z68).f2, .int .i64 (xs.getD i.toNat z68).f3.f0, .int .i64 (xs.getD i.toNat z68).f3.f1, .int .i64 (xs.getD i.toNat z68).f4.f0, .int .i64 (xs.getD i.toNat z68).f4.f1, v7]) → SL (w.setCell ⟨g, i.toNat * 8 + j, none⟩ (.int .i64 u)) base ok (.slice (some ⟨g, 0, none⟩) xs.length cap) (xs.map fun x => x.f5.length) ∧ w.grownBy (w.setCell ⟨g, i.toNat * 8 + j, none⟩ (.int .i64 u)) (some g) := by
    intro x' hx hm
    exact fin x' hx (Kd.S_seg (okg := fun _ => False) hH h0 h1 (seg := [.int .i64 u]) (j := j) (show j + 1 ≤ 8 by omega) hm (fun k hk => Or.inl hk) (fun k hk => hk.elim))
  obtain rfl | rfl | rfl | rfl | rfl | rfl | rfl : j = 0 ∨ j = 1 ∨ j = 2 ∨ j = 3 ∨ j = 4 ∨ j = 5 ∨ j = 6 := by omega
  · exact seg ⟨u, (xs.getD i.toNat z68).f1, (xs.getD i.toNat z68).f2, (xs.getD i.toNat z68).f3, (xs.getD i.toNat z68).f4, (xs.getD i.toNat z68).f5⟩ rfl (k68_mkM _ _ _ ⟨u, (xs.getD i.toNat z68).f1, (xs.getD i.toNat z68).f2, (xs.getD i.toNat z68).f3, (xs.getD i.toNat z68).f4, (xs.getD i.toNat z68).f5⟩ hR)
  · exact seg ⟨(xs.getD i.toNat z68).f0, u, (xs.getD i.toNat z68).f2, (xs.getD i.toNat z68).f3, (xs.getD i.toNat z68).f4, (xs.getD i.toNat z68).f5⟩ rfl (k68_mkM _ _ _ ⟨(xs.getD i.toNat z68).f0, u, (xs.getD i.toNat z68).f2, (xs.getD i.toNat z68).f3, (xs.getD i.toNat z68).f4, (xs.getD i.toNat z68).f5⟩ hR)
  · exact seg ⟨(xs.getD i.toNat z68).f0, (xs.getD i.toNat z68).f1, u, (xs.getD i.toNat z68).f3, (xs.getD i.toNat z68).f4, (xs.getD i.toNat z68).f5⟩ rfl (k68_mkM _ _ _ ⟨(xs.getD i.toNat z68).f0, (xs.getD i.toNat z68).f1, u, (xs.getD i.toNat z68).f3, (xs.getD i.toNat z68).f4, (xs.getD i.toNat z68).f5⟩ hR)
  · exact seg ⟨(xs.getD i.toNat z68).f0, (xs.getD i.toNat z68).f1, (xs.getD i.toNat z68).f2, ⟨u, (xs.getD i.toNat z68).f3.f1⟩, (xs.getD i.toNat z68).f4, (xs.getD i.toNat z68).f5⟩ rfl (k68_mkM _ _ _ ⟨(xs.getD i.toNat z68).f0, (xs.getD i.toNat z68).f1, (xs.getD i.toNat z68).f2, ⟨u, (xs.getD i.toNat z68).f3.f1⟩, (xs.getD i.toNat z68).f4, (xs.getD i.toNat z68).f5⟩ hR)
  · exact seg ⟨(xs.getD i.toNat z68).f0, (xs.getD i.toNat z68).f1, (xs.getD i.toNat z68).f2, ⟨(xs.getD i.toNat z68).f3.f0, u⟩, (xs.getD i.toNat z68).f4, (xs.getD i.toNat z68).f5⟩ rfl (k68_mkM _ _ _ ⟨(xs.getD i.toNat z68).f0, (xs.getD i.toNat z68).f1, (xs.getD i.toNat z68).f2, ⟨(xs.getD i.toNat z68).f3.f0, u⟩, (xs.getD i.toNat z68).f4, (xs.getD i.toNat z68).f5⟩ hR)
  · exact seg ⟨(xs.getD i.toNat z68).f0, (xs.getD i.toNat z68).f1, (xs.getD i.toNat z68).f2, (xs.getD i.toNat z68).f3, ⟨u, (xs.getD i.toNat z68).f4.f1⟩, (xs.getD i.toNat z68).f5⟩ rfl (k68_mkM _ _ _ ⟨(xs.getD i.toNat z68).f0, (xs.getD i.toNat z68).f1, (xs.getD i.toNat z68).f2, (xs.getD i.toNat z68).f3, ⟨u, (xs.getD i.toNat z68).f4.f1⟩, (xs.getD i.toNat z68).f5⟩ hR)
  · exact seg ⟨(xs.getD i.toNat z68).f0, (xs.getD i.toNat z68).f1, (xs.getD i.toNat z68).f2, (xs.getD i.toNat z68).f3, ⟨(xs.getD i.toNat z68).f4.f0, u⟩, (xs.getD i.toNat z68).f5⟩ rfl (k68_mkM _ _ _ ⟨(xs.getD i.toNat z68).f0, (xs.getD i.toNat z68).f1, (xs.getD i.toNat z68).f2, (xs.getD i.toNat z68).f3, ⟨(xs.getD i.toNat z68).f4.f0, u⟩, (xs.getD i.toNat z68).f5⟩ hR)
/-- The inner row of a step, handed to what writes it. -/
theorem SL_inner {w : World} {base : Nat} {ok : Nat → Prop} {ls : List Nat} {g n cap : Nat} (h : SL w base ok (.slice (some ⟨g, 0, none⟩) n cap) ls) (i : Int) (h0 : 0 ≤ i) (h1 : i < ls.length) :
    ∃ (v7 : Value) (l : List Int) (oki : Nat → Prop), w.cell? ⟨g, i.toNat * 8 + 7, none⟩ = some v7 ∧ l.length = ls.getD i.toNat 0 ∧ Kd.R (Kd.int .i64) 3 w base oki v7 l ∧ (∀ k, oki k → ok k) ∧
      ∀ w1 l', Kept w w1 oki → l'.length = l.length → Kd.R (Kd.int .i64) 3 w1 base (fun k => oki k ∨ w.heap.size ≤ k) v7 l' → SL w1 base ok (.slice (some ⟨g, 0, none⟩) n cap) ls := by
  obtain ⟨xs, hS, rfl⟩ := h
  rw [List.length_map] at h1
  obtain ⟨rfl, _, _⟩ := Kd.S_reads' hS
  obtain ⟨oki, c, hcl, hM, hcc, hfr, hoki, hH⟩ := Kd.S_elem hS z68 i h0 h1
  obtain ⟨v7, rfl, hR⟩ := k68_openM hM
  have hi : i.toNat < xs.length := by omega
  have hl : (xs.map fun x => x.f5.length).getD i.toNat 0 = (xs.getD i.toNat z68).f5.length := by
    rw [List.getD_eq_getElem?_getD, List.getElem?_map, List.getElem?_eq_getElem hi, List.getD_eq_getElem?_getD, List.getElem?_eq_getElem hi]
    rfl
  refine ⟨v7, (xs.getD i.toNat z68).f5, fun k => some k = v7.ownBlock, hcc 7 _ rfl, hl.symm, Kd.R_tight rfl hR, fun k hk => (hoki k (hR.1 k hk.symm)).1, fun w1 l' hK hlen hR1 => ?_⟩
  have hT := Kd.R_tight rfl hR1
  have hH1 := Kd.H_step hH (w1 := w1) (fun k _ hn hlt => hK.2 k hlt (fun hk => hn (hR.1 k hk.symm)))
  refine ⟨_, Kd.H_back hH1 (okp := fun k => some k = v7.ownBlock) (x' := ⟨(xs.getD i.toNat z68).f0, (xs.getD i.toNat z68).f1, (xs.getD i.toNat z68).f2, (xs.getD i.toNat z68).f3, (xs.getD i.toNat z68).f4, l'⟩) (k68_mkM _ _ _ ⟨(xs.getD i.toNat z68).f0, (xs.getD i.toNat z68).f1, (xs.getD i.toNat z68).f2, (xs.getD i.toNat z68).f3, (xs.getD i.toNat z68).f4, l'⟩ hT) (fun k hk => hR.1 k hk.symm), ?_⟩
  rw [List.map_set]
  apply List.ext_getElem?
  intro m
  rw [List.getElem?_set]
  by_cases hm : i.toNat = m
  · subst hm
    rw [if_pos rfl, if_pos (by rw [List.length_map]; exact hi), List.getElem?_map, List.getElem?_eq_getElem hi]
    show some l'.length = _
    rw [hlen, List.getD_eq_getElem?_getD, List.getElem?_eq_getElem hi]
    rfl
  · rw [if_neg hm]
/-- What markIntS reckons. -/
theorem markInt_run (d : Nat) : ∀ (l : List Int) (a i : Int), 0 ≤ i → (l.length : Int) - i = d → 0 ≤ a → a + d < 4611686018427387904 → (l.length : Int) < 4611686018427387904 → ∃ k l', laws_markIntS.l0 k l a i = some (a + d, l') ∧ l'.length = l.length := by
  induction d with
  | zero =>
    intro l a i h0 hd ha hb hl
    exact ⟨1, l, by simp only [laws_markIntS.l0]; rw [if_neg (by omega), show a + ((0 : Nat) : Int) = a by omega], rfl⟩
  | succ d ih =>
    intro l a i h0 hd ha hb hl
    have hw : wrap64 (a + 1) = a + 1 := by unfold wrap64; omega
    have hi : wrap64 (i + 1) = i + 1 := by unfold wrap64; omega
    obtain ⟨k, l', h, hl'⟩ := ih (l.set i.toNat a) (a + 1) (i + 1) (by omega) (by rw [List.length_set]; omega) (by omega) (by omega) (by rw [List.length_set]; exact hl)
    refine ⟨k + 1, l', ?_, by rw [hl', List.length_set]⟩
    simp only [laws_markIntS.l0]
    rw [if_pos (by omega), if_pos h0, hw, hi, h, show a + 1 + (d : Int) = a + ((d + 1 : Nat) : Int) by omega]
/-- How far a row of steps is marked on. -/
def marked (ls : List Nat) : Int := ls.foldr (fun (n : Nat) (s : Int) => 7 + (n : Int) + s) 0
theorem marked_pos : ∀ ls, 0 ≤ marked ls
  | [] => Int.le_refl _
  | n :: ls => by have := marked_pos ls; show 0 ≤ 7 + (n : Int) + marked ls; omega
theorem marked_take (ls : List Nat) (i : Nat) (hi : i < ls.length) : marked (ls.take (i + 1)) = marked (ls.take i) + (7 + (ls.getD i 0 : Int)) := by
  induction ls generalizing i with
  | nil => exact absurd hi (Nat.not_lt_zero _)
  | cons n ls ih =>
    cases i with
    | zero => simp [marked]
    | succ i =>
      have := ih i (by simpa using hi)
      simp only [List.take_succ_cons]
      show 7 + (n : Int) + marked (ls.take (i + 1)) = 7 + (n : Int) + marked (ls.take i) + _
      rw [this]
      simp only [List.getD_cons_succ]
      omega
theorem marked_le (ls : List Nat) (i : Nat) : marked (ls.take i) ≤ marked ls := by
  induction ls generalizing i with
  | nil => simp
  | cons n ls ih =>
    cases i with
    | zero => exact marked_pos _
    | succ i => have := ih i; simp only [List.take_succ_cons]; show 7 + (n : Int) + marked (ls.take i) ≤ 7 + (n : Int) + marked ls; omega
set_option maxHeartbeats 8000000 in
set_option maxRecDepth 100000 in
theorem laws_markStepS.calls (P0_ : Nat → Prop) (v : Value) (ls : List Nat) (a1 : Int) (w0 w : World) (hB : Below w0.heap.size w0 w) (ho : SL w w0.heap.size P0_ v ls) (ha : 0 ≤ a1) (hs : a1 + marked ls < 1152921504606846976) (hl : (ls.length : Int) < 1152921504606846976) :
    Calls Try.prog 70 #[v, .int .i64 a1] w fun e w' => e = .returned (.int .i64 (a1 + marked ls)) ∧ Below w0.heap.size w0 w' ∧ Kept w w' P0_ := by
  have hu1 := Try.underlying68
  have hu2 := Try.underlying43
  have HS := Aside0.mk ho
  have HB := Aside0.mk hB
  have HK := Aside0.mk (Kept.refl w P0_)
  have HA := Aside0.mk ha
  have HM := Aside0.mk hs
  have HL := Aside0.mk hl
  clear ho hB ha hs hl
  obtain ⟨k, hk⟩ : ∃ k, k = ls.length + 1 := ⟨_, rfl⟩
  have HN := Aside0.mk hk
  clear hk
  obtain ⟨A0, c0, rfl⟩ := SL_len HS.out
  go_enter Try.func70, Try.ntmps70
  go_wp2
  go_loopg [1, 5] k (fun kq v1 v5 w' => ∃ (x1 x5 : Int), v1 = .int .i64 x1 ∧ v5 = .int .i64 x5 ∧ Aside0 (0 ≤ x5 ∧ x5 ≤ (ls.length : Int) ∧ x1 = a1 + marked (ls.take x5.toNat)) ∧ Aside0 ((kq : Int) + x5 = (ls.length : Int) + 1) ∧ Aside0 (SL w' w0.heap.size P0_ (.slice A0 ls.length c0) ls) ∧ Aside0 (Kept w w' P0_) ∧ Aside0 (Below w0.heap.size w0 w'))
  case atStart => exact ⟨a1, 0, rfl, rfl, ⟨by omega, by omega, by simp [marked]⟩, ⟨by have := HN.out; omega⟩, HS, HK, HB⟩
  case round =>
    clear HS HK HB
    obtain ⟨x1, x5, rfl, rfl, HI, HK1, HS, HK, HB⟩ := hrel
    cases gk with
    | zero => exact absurd HK1.out (by have := HI.out; omega)
    | succ k1 =>
      by_cases c3 : x5 < (ls.length : Int)
      · have c3b0 : decide (x5 < (ls.length : Int)) = true := decide_eq_true c3
        have p0 := HI.out.1
        have p1 := c3
        obtain ⟨g, cap, e_, hg_, hok_⟩ := SL_form HS.out (by omega)
        injection e_ with ea_ _ ec_
        subst ea_
        subst ec_
        have GO := Aside0.mk hok_
        have GB := Aside0.mk hg_
        clear hg_ hok_
        have hpos := marked_pos (ls.take x5.toNat)
        have hle := marked_le ls (x5.toNat + 1)
        have htk := marked_take ls x5.toNat (by omega)
        have hx := HI.out.2.2
        have hm := HM.out
        have ha := HA.out
        have hlb := HL.out
        have W7 : Aside0 (wrap64 (wrap64 (wrap64 (wrap64 (wrap64 (wrap64 (wrap64 (x1 + 1) + 1) + 1) + 1) + 1) + 1) + 1) = x1 + 7) := ⟨by
          rw [show wrap64 (x1 + 1) = x1 + 1 by unfold wrap64; omega, show wrap64 (x1 + 1 + 1) = x1 + 2 by unfold wrap64; omega, show wrap64 (x1 + 2 + 1) = x1 + 3 by unfold wrap64; omega, show wrap64 (x1 + 3 + 1) = x1 + 4 by unfold wrap64; omega, show wrap64 (x1 + 4 + 1) = x1 + 5 by unfold wrap64; omega, show wrap64 (x1 + 5 + 1) = x1 + 6 by unfold wrap64; omega, show wrap64 (x1 + 6 + 1) = x1 + 7 by unfold wrap64; omega]⟩
        have HQ : Aside0 (0 ≤ x1 + 7 ∧ x1 + 7 + (ls.getD x5.toNat 0 : Int) < 4611686018427387904 ∧ ((ls.getD x5.toNat 0 : Nat) : Int) < 4611686018427387904) := ⟨by omega⟩
        have HT := Aside0.mk htk
        have P0 := Aside0.mk p0
        have P1 := Aside0.mk p1
        clear hpos hle htk hx hm ha hlb c3
        replace p0 := eq_true p0
        replace p1 := eq_true p1
        obtain ⟨⟨y0, y1, y2, y3, y4, y5, y6, hx0, hx1, hx2, hx3, hx4, hx5, hx6⟩, hf⟩ := SL_at HS.out x5 P0.out P1.out
        have hf0 := hf 0
        have hf1 := hf 1
        have hf2 := hf 2
        have hf3 := hf 3
        have hf4 := hf 4
        have hf5 := hf 5
        have hf6 := hf 6
        try simp only [Nat.add_zero] at hf0
        clear hf
        have HP := SL_put HS.out x5 P0.out P1.out 0 (by decide) (x1)
        go_wp2_with (first | ((with_reducible refine gate_store (t := 3) (p := 16) rfl ?_); refine store_event (t := 3) (p := 16) (v := ?vo_w1) (w1 := (wr.setCell ⟨g, x5.toNat * 8, none⟩ (.int .i64 (x1)))) ?hg ?ho ?hn ?hr ?_; (case ho => rfl); (case hg => rfl); (case hn => rfl); (case hr => first | (go_simp; done) | (go_simp; rfl)); intro w1 hw; have hg : wr.grownBy w1 (some g) := (by rw [hw]; exact HP.2); have n0_ := Aside0.mk (show SL w1 w0.heap.size P0_ (.slice (some ⟨g, 0, none⟩) ls.length c0) ls from (by rw [hw]; exact HP.1)); have n1_ := Aside0.mk ((by rw [hw]; exact below_set (HB.out) GB.out : Below w0.heap.size w0 w1)); have n2_ := Aside0.mk (Kept.of_grown (S := P0_) hg HK.out (fun k_ e_ => .inl (by cases e_; exact GO.out))); clear HP HS HB HK hx0 hx1 hx2 hx3 hx4 hx5 hx6 hf0 hf1 hf2 hf3 hf4 hf5 hf6; have HS := n0_; have HB := n1_; have HK := n2_; clear n0_ n1_ n2_ hg hw; obtain ⟨⟨y0, y1, y2, y3, y4, y5, y6, hx0, hx1, hx2, hx3, hx4, hx5, hx6⟩, hf⟩ := SL_at HS.out x5 P0.out P1.out; have hf0 := hf 0; have hf1 := hf 1; have hf2 := hf 2; have hf3 := hf 3; have hf4 := hf 4; have hf5 := hf 5; have hf6 := hf 6; try simp only [Nat.add_zero] at hf0; clear hf; have HP := SL_put HS.out x5 P0.out P1.out 1 (by decide) (wrap64 (x1 + 1))) | ((with_reducible refine gate_store (t := 3) (p := 23) rfl ?_); refine store_event (t := 3) (p := 23) (v := ?vo_w2) (w1 := (w1.setCell ⟨g, x5.toNat * 8 + 1, none⟩ (.int .i64 (wrap64 (x1 + 1))))) ?hg ?ho ?hn ?hr ?_; (case ho => rfl); (case hg => rfl); (case hn => rfl); (case hr => first | (go_simp; done) | (go_simp; rfl)); intro w2 hw; have hg : w1.grownBy w2 (some g) := (by rw [hw]; exact HP.2); have n0_ := Aside0.mk (show SL w2 w0.heap.size P0_ (.slice (some ⟨g, 0, none⟩) ls.length c0) ls from (by rw [hw]; exact HP.1)); have n1_ := Aside0.mk ((by rw [hw]; exact below_set (HB.out) GB.out : Below w0.heap.size w0 w2)); have n2_ := Aside0.mk (Kept.of_grown (S := P0_) hg HK.out (fun k_ e_ => .inl (by cases e_; exact GO.out))); clear HP HS HB HK hx0 hx1 hx2 hx3 hx4 hx5 hx6 hf0 hf1 hf2 hf3 hf4 hf5 hf6; have HS := n0_; have HB := n1_; have HK := n2_; clear n0_ n1_ n2_ hg hw; obtain ⟨⟨y0, y1, y2, y3, y4, y5, y6, hx0, hx1, hx2, hx3, hx4, hx5, hx6⟩, hf⟩ := SL_at HS.out x5 P0.out P1.out; have hf0 := hf 0; have hf1 := hf 1; have hf2 := hf 2; have hf3 := hf 3; have hf4 := hf 4; have hf5 := hf 5; have hf6 := hf 6; try simp only [Nat.add_zero] at hf0; clear hf; have HP := SL_put HS.out x5 P0.out P1.out 2 (by decide) (wrap64 (wrap64 (x1 + 1) + 1))) | ((with_reducible refine gate_store (t := 3) (p := 30) rfl ?_); refine store_event (t := 3) (p := 30) (v := ?vo_w3) (w1 := (w2.setCell ⟨g, x5.toNat * 8 + 2, none⟩ (.int .i64 (wrap64 (wrap64 (x1 + 1) + 1))))) ?hg ?ho ?hn ?hr ?_; (case ho => rfl); (case hg => rfl); (case hn => rfl); (case hr => first | (go_simp; done) | (go_simp; rfl)); intro w3 hw; have hg : w2.grownBy w3 (some g) := (by rw [hw]; exact HP.2); have n0_ := Aside0.mk (show SL w3 w0.heap.size P0_ (.slice (some ⟨g, 0, none⟩) ls.length c0) ls from (by rw [hw]; exact HP.1)); have n1_ := Aside0.mk ((by rw [hw]; exact below_set (HB.out) GB.out : Below w0.heap.size w0 w3)); have n2_ := Aside0.mk (Kept.of_grown (S := P0_) hg HK.out (fun k_ e_ => .inl (by cases e_; exact GO.out))); clear HP HS HB HK hx0 hx1 hx2 hx3 hx4 hx5 hx6 hf0 hf1 hf2 hf3 hf4 hf5 hf6; have HS := n0_; have HB := n1_; have HK := n2_; clear n0_ n1_ n2_ hg hw; obtain ⟨⟨y0, y1, y2, y3, y4, y5, y6, hx0, hx1, hx2, hx3, hx4, hx5, hx6⟩, hf⟩ := SL_at HS.out x5 P0.out P1.out; have hf0 := hf 0; have hf1 := hf 1; have hf2 := hf 2; have hf3 := hf 3; have hf4 := hf 4; have hf5 := hf 5; have hf6 := hf 6; try simp only [Nat.add_zero] at hf0; clear hf; have HP := SL_put HS.out x5 P0.out P1.out 3 (by decide) (wrap64 (wrap64 (wrap64 (x1 + 1) + 1) + 1))) | ((with_reducible refine gate_store (t := 3) (p := 38) rfl ?_); refine store_event (t := 3) (p := 38) (v := ?vo_w4) (w1 := (w3.setCell ⟨g, x5.toNat * 8 + 3, none⟩ (.int .i64 (wrap64 (wrap64 (wrap64 (x1 + 1) + 1) + 1))))) ?hg ?ho ?hn ?hr ?_; (case ho => rfl); (case hg => rfl); (case hn => rfl); (case hr => first | (go_simp; done) | (go_simp; rfl)); intro w4 hw; have hg : w3.grownBy w4 (some g) := (by rw [hw]; exact HP.2); have n0_ := Aside0.mk (show SL w4 w0.heap.size P0_ (.slice (some ⟨g, 0, none⟩) ls.length c0) ls from (by rw [hw]; exact HP.1)); have n1_ := Aside0.mk ((by rw [hw]; exact below_set (HB.out) GB.out : Below w0.heap.size w0 w4)); have n2_ := Aside0.mk (Kept.of_grown (S := P0_) hg HK.out (fun k_ e_ => .inl (by cases e_; exact GO.out))); clear HP HS HB HK hx0 hx1 hx2 hx3 hx4 hx5 hx6 hf0 hf1 hf2 hf3 hf4 hf5 hf6; have HS := n0_; have HB := n1_; have HK := n2_; clear n0_ n1_ n2_ hg hw; obtain ⟨⟨y0, y1, y2, y3, y4, y5, y6, hx0, hx1, hx2, hx3, hx4, hx5, hx6⟩, hf⟩ := SL_at HS.out x5 P0.out P1.out; have hf0 := hf 0; have hf1 := hf 1; have hf2 := hf 2; have hf3 := hf 3; have hf4 := hf 4; have hf5 := hf 5; have hf6 := hf 6; try simp only [Nat.add_zero] at hf0; clear hf; have HP := SL_put HS.out x5 P0.out P1.out 4 (by decide) (wrap64 (wrap64 (wrap64 (wrap64 (x1 + 1) + 1) + 1) + 1))) | ((with_reducible refine gate_store (t := 3) (p := 46) rfl ?_); refine store_event (t := 3) (p := 46) (v := ?vo_w5) (w1 := (w4.setCell ⟨g, x5.toNat * 8 + 4, none⟩ (.int .i64 (wrap64 (wrap64 (wrap64 (wrap64 (x1 + 1) + 1) + 1) + 1))))) ?hg ?ho ?hn ?hr ?_; (case ho => rfl); (case hg => rfl); (case hn => rfl); (case hr => first | (go_simp; done) | (go_simp; rfl)); intro w5 hw; have hg : w4.grownBy w5 (some g) := (by rw [hw]; exact HP.2); have n0_ := Aside0.mk (show SL w5 w0.heap.size P0_ (.slice (some ⟨g, 0, none⟩) ls.length c0) ls from (by rw [hw]; exact HP.1)); have n1_ := Aside0.mk ((by rw [hw]; exact below_set (HB.out) GB.out : Below w0.heap.size w0 w5)); have n2_ := Aside0.mk (Kept.of_grown (S := P0_) hg HK.out (fun k_ e_ => .inl (by cases e_; exact GO.out))); clear HP HS HB HK hx0 hx1 hx2 hx3 hx4 hx5 hx6 hf0 hf1 hf2 hf3 hf4 hf5 hf6; have HS := n0_; have HB := n1_; have HK := n2_; clear n0_ n1_ n2_ hg hw; obtain ⟨⟨y0, y1, y2, y3, y4, y5, y6, hx0, hx1, hx2, hx3, hx4, hx5, hx6⟩, hf⟩ := SL_at HS.out x5 P0.out P1.out; have hf0 := hf 0; have hf1 := hf 1; have hf2 := hf 2; have hf3 := hf 3; have hf4 := hf 4; have hf5 := hf 5; have hf6 := hf 6; try simp only [Nat.add_zero] at hf0; clear hf; have HP := SL_put HS.out x5 P0.out P1.out 5 (by decide) (wrap64 (wrap64 (wrap64 (wrap64 (wrap64 (x1 + 1) + 1) + 1) + 1) + 1))) | ((with_reducible refine gate_store (t := 3) (p := 54) rfl ?_); refine store_event (t := 3) (p := 54) (v := ?vo_w6) (w1 := (w5.setCell ⟨g, x5.toNat * 8 + 5, none⟩ (.int .i64 (wrap64 (wrap64 (wrap64 (wrap64 (wrap64 (x1 + 1) + 1) + 1) + 1) + 1))))) ?hg ?ho ?hn ?hr ?_; (case ho => rfl); (case hg => rfl); (case hn => rfl); (case hr => first | (go_simp; done) | (go_simp; rfl)); intro w6 hw; have hg : w5.grownBy w6 (some g) := (by rw [hw]; exact HP.2); have n0_ := Aside0.mk (show SL w6 w0.heap.size P0_ (.slice (some ⟨g, 0, none⟩) ls.length c0) ls from (by rw [hw]; exact HP.1)); have n1_ := Aside0.mk ((by rw [hw]; exact below_set (HB.out) GB.out : Below w0.heap.size w0 w6)); have n2_ := Aside0.mk (Kept.of_grown (S := P0_) hg HK.out (fun k_ e_ => .inl (by cases e_; exact GO.out))); clear HP HS HB HK hx0 hx1 hx2 hx3 hx4 hx5 hx6 hf0 hf1 hf2 hf3 hf4 hf5 hf6; have HS := n0_; have HB := n1_; have HK := n2_; clear n0_ n1_ n2_ hg hw; obtain ⟨⟨y0, y1, y2, y3, y4, y5, y6, hx0, hx1, hx2, hx3, hx4, hx5, hx6⟩, hf⟩ := SL_at HS.out x5 P0.out P1.out; have hf0 := hf 0; have hf1 := hf 1; have hf2 := hf 2; have hf3 := hf 3; have hf4 := hf 4; have hf5 := hf 5; have hf6 := hf 6; try simp only [Nat.add_zero] at hf0; clear hf; have HP := SL_put HS.out x5 P0.out P1.out 6 (by decide) (wrap64 (wrap64 (wrap64 (wrap64 (wrap64 (wrap64 (x1 + 1) + 1) + 1) + 1) + 1) + 1))) | ((with_reducible refine gate_store (t := 3) (p := 62) rfl ?_); refine store_event (t := 3) (p := 62) (v := ?vo_w7) (w1 := (w6.setCell ⟨g, x5.toNat * 8 + 6, none⟩ (.int .i64 (wrap64 (wrap64 (wrap64 (wrap64 (wrap64 (wrap64 (x1 + 1) + 1) + 1) + 1) + 1) + 1))))) ?hg ?ho ?hn ?hr ?_; (case ho => rfl); (case hg => rfl); (case hn => rfl); (case hr => first | (go_simp; done) | (go_simp; rfl)); intro w7 hw; have hg : w6.grownBy w7 (some g) := (by rw [hw]; exact HP.2); have n0_ := Aside0.mk (show SL w7 w0.heap.size P0_ (.slice (some ⟨g, 0, none⟩) ls.length c0) ls from (by rw [hw]; exact HP.1)); have n1_ := Aside0.mk ((by rw [hw]; exact below_set (HB.out) GB.out : Below w0.heap.size w0 w7)); have n2_ := Aside0.mk (Kept.of_grown (S := P0_) hg HK.out (fun k_ e_ => .inl (by cases e_; exact GO.out))); clear HP HS HB HK hx0 hx1 hx2 hx3 hx4 hx5 hx6 hf0 hf1 hf2 hf3 hf4 hf5 hf6; have HS := n0_; have HB := n1_; have HK := n2_; clear n0_ n1_ n2_ hg hw; obtain ⟨v7, l7, oki, hx7, hl7, hr7, hok7, hback⟩ := SL_inner HS.out x5 P0.out P1.out; have HR7 := Aside0.mk hr7; have HX := Aside0.mk hback; have HO7 := Aside0.mk hok7; clear hr7 hback hok7; have HL7 := Aside0.mk hl7; clear hl7; obtain ⟨kk, l8, hrun, hl8⟩ := (by have hq := HQ.out; rw [← HL7.out] at hq; exact markInt_run l7.length l7 (x1 + 7) 0 (by omega) (by omega) hq.1 hq.2.1 hq.2.2 : ∃ k l', laws_markIntS.l0 k l7 (x1 + 7) 0 = some (x1 + 7 + (l7.length : Int), l') ∧ l'.length = l7.length); have HF : Aside0 (laws_markIntS.f kk l7 (wrap64 (wrap64 (wrap64 (wrap64 (wrap64 (wrap64 (wrap64 (x1 + 1) + 1) + 1) + 1) + 1) + 1) + 1)) = some (x1 + 7 + (l7.length : Int), l8)) := ⟨by rw [W7.out]; exact hrun⟩; have HL8 := Aside0.mk hl8; clear hrun hl8) | (go_at_call 49; (with_reducible refine (laws_markIntS.calls kk oki v7 l7 (wrap64 (wrap64 (wrap64 (wrap64 (wrap64 (wrap64 (wrap64 (x1 + 1) + 1) + 1) + 1) + 1) + 1) + 1)) _ _ w0 _ ?side1 ?side2 HF.out).mono ?_); (case side1 => exact HB.out); (case side2 => exact HR7.out); rintro e w8 ⟨rfl, hr_, hb_, hk_⟩; have n0_ := Aside0.mk (HX.out w8 l8 hk_ HL8.out hr_); have n1_ := Aside0.mk hb_; have n2_ := Aside0.mk (Kept.then_ HK.out hk_ (fun k_ h_ => .inl (HO7.out k_ h_))); clear HS HB HK hr_ hb_ hk_; have HS := n0_; have HB := n1_; have HK := n2_; clear n0_ n1_ n2_))
        repeat (go_quiet (first | ((with_reducible refine gate_store (t := 3) (p := 16) rfl ?_); refine store_event (t := 3) (p := 16) (v := ?vo_w1) (w1 := (wr.setCell ⟨g, x5.toNat * 8, none⟩ (.int .i64 (x1)))) ?hg ?ho ?hn ?hr ?_; (case ho => rfl); (case hg => rfl); (case hn => rfl); (case hr => first | (go_simp; done) | (go_simp; rfl)); intro w1 hw; have hg : wr.grownBy w1 (some g) := (by rw [hw]; exact HP.2); have n0_ := Aside0.mk (show SL w1 w0.heap.size P0_ (.slice (some ⟨g, 0, none⟩) ls.length c0) ls from (by rw [hw]; exact HP.1)); have n1_ := Aside0.mk ((by rw [hw]; exact below_set (HB.out) GB.out : Below w0.heap.size w0 w1)); have n2_ := Aside0.mk (Kept.of_grown (S := P0_) hg HK.out (fun k_ e_ => .inl (by cases e_; exact GO.out))); clear HP HS HB HK hx0 hx1 hx2 hx3 hx4 hx5 hx6 hf0 hf1 hf2 hf3 hf4 hf5 hf6; have HS := n0_; have HB := n1_; have HK := n2_; clear n0_ n1_ n2_ hg hw; obtain ⟨⟨y0, y1, y2, y3, y4, y5, y6, hx0, hx1, hx2, hx3, hx4, hx5, hx6⟩, hf⟩ := SL_at HS.out x5 P0.out P1.out; have hf0 := hf 0; have hf1 := hf 1; have hf2 := hf 2; have hf3 := hf 3; have hf4 := hf 4; have hf5 := hf 5; have hf6 := hf 6; try simp only [Nat.add_zero] at hf0; clear hf; have HP := SL_put HS.out x5 P0.out P1.out 1 (by decide) (wrap64 (x1 + 1))) | ((with_reducible refine gate_store (t := 3) (p := 23) rfl ?_); refine store_event (t := 3) (p := 23) (v := ?vo_w2) (w1 := (w1.setCell ⟨g, x5.toNat * 8 + 1, none⟩ (.int .i64 (wrap64 (x1 + 1))))) ?hg ?ho ?hn ?hr ?_; (case ho => rfl); (case hg => rfl); (case hn => rfl); (case hr => first | (go_simp; done) | (go_simp; rfl)); intro w2 hw; have hg : w1.grownBy w2 (some g) := (by rw [hw]; exact HP.2); have n0_ := Aside0.mk (show SL w2 w0.heap.size P0_ (.slice (some ⟨g, 0, none⟩) ls.length c0) ls from (by rw [hw]; exact HP.1)); have n1_ := Aside0.mk ((by rw [hw]; exact below_set (HB.out) GB.out : Below w0.heap.size w0 w2)); have n2_ := Aside0.mk (Kept.of_grown (S := P0_) hg HK.out (fun k_ e_ => .inl (by cases e_; exact GO.out))); clear HP HS HB HK hx0 hx1 hx2 hx3 hx4 hx5 hx6 hf0 hf1 hf2 hf3 hf4 hf5 hf6; have HS := n0_; have HB := n1_; have HK := n2_; clear n0_ n1_ n2_ hg hw; obtain ⟨⟨y0, y1, y2, y3, y4, y5, y6, hx0, hx1, hx2, hx3, hx4, hx5, hx6⟩, hf⟩ := SL_at HS.out x5 P0.out P1.out; have hf0 := hf 0; have hf1 := hf 1; have hf2 := hf 2; have hf3 := hf 3; have hf4 := hf 4; have hf5 := hf 5; have hf6 := hf 6; try simp only [Nat.add_zero] at hf0; clear hf; have HP := SL_put HS.out x5 P0.out P1.out 2 (by decide) (wrap64 (wrap64 (x1 + 1) + 1))) | ((with_reducible refine gate_store (t := 3) (p := 30) rfl ?_); refine store_event (t := 3) (p := 30) (v := ?vo_w3) (w1 := (w2.setCell ⟨g, x5.toNat * 8 + 2, none⟩ (.int .i64 (wrap64 (wrap64 (x1 + 1) + 1))))) ?hg ?ho ?hn ?hr ?_; (case ho => rfl); (case hg => rfl); (case hn => rfl); (case hr => first | (go_simp; done) | (go_simp; rfl)); intro w3 hw; have hg : w2.grownBy w3 (some g) := (by rw [hw]; exact HP.2); have n0_ := Aside0.mk (show SL w3 w0.heap.size P0_ (.slice (some ⟨g, 0, none⟩) ls.length c0) ls from (by rw [hw]; exact HP.1)); have n1_ := Aside0.mk ((by rw [hw]; exact below_set (HB.out) GB.out : Below w0.heap.size w0 w3)); have n2_ := Aside0.mk (Kept.of_grown (S := P0_) hg HK.out (fun k_ e_ => .inl (by cases e_; exact GO.out))); clear HP HS HB HK hx0 hx1 hx2 hx3 hx4 hx5 hx6 hf0 hf1 hf2 hf3 hf4 hf5 hf6; have HS := n0_; have HB := n1_; have HK := n2_; clear n0_ n1_ n2_ hg hw; obtain ⟨⟨y0, y1, y2, y3, y4, y5, y6, hx0, hx1, hx2, hx3, hx4, hx5, hx6⟩, hf⟩ := SL_at HS.out x5 P0.out P1.out; have hf0 := hf 0; have hf1 := hf 1; have hf2 := hf 2; have hf3 := hf 3; have hf4 := hf 4; have hf5 := hf 5; have hf6 := hf 6; try simp only [Nat.add_zero] at hf0; clear hf; have HP := SL_put HS.out x5 P0.out P1.out 3 (by decide) (wrap64 (wrap64 (wrap64 (x1 + 1) + 1) + 1))) | ((with_reducible refine gate_store (t := 3) (p := 38) rfl ?_); refine store_event (t := 3) (p := 38) (v := ?vo_w4) (w1 := (w3.setCell ⟨g, x5.toNat * 8 + 3, none⟩ (.int .i64 (wrap64 (wrap64 (wrap64 (x1 + 1) + 1) + 1))))) ?hg ?ho ?hn ?hr ?_; (case ho => rfl); (case hg => rfl); (case hn => rfl); (case hr => first | (go_simp; done) | (go_simp; rfl)); intro w4 hw; have hg : w3.grownBy w4 (some g) := (by rw [hw]; exact HP.2); have n0_ := Aside0.mk (show SL w4 w0.heap.size P0_ (.slice (some ⟨g, 0, none⟩) ls.length c0) ls from (by rw [hw]; exact HP.1)); have n1_ := Aside0.mk ((by rw [hw]; exact below_set (HB.out) GB.out : Below w0.heap.size w0 w4)); have n2_ := Aside0.mk (Kept.of_grown (S := P0_) hg HK.out (fun k_ e_ => .inl (by cases e_; exact GO.out))); clear HP HS HB HK hx0 hx1 hx2 hx3 hx4 hx5 hx6 hf0 hf1 hf2 hf3 hf4 hf5 hf6; have HS := n0_; have HB := n1_; have HK := n2_; clear n0_ n1_ n2_ hg hw; obtain ⟨⟨y0, y1, y2, y3, y4, y5, y6, hx0, hx1, hx2, hx3, hx4, hx5, hx6⟩, hf⟩ := SL_at HS.out x5 P0.out P1.out; have hf0 := hf 0; have hf1 := hf 1; have hf2 := hf 2; have hf3 := hf 3; have hf4 := hf 4; have hf5 := hf 5; have hf6 := hf 6; try simp only [Nat.add_zero] at hf0; clear hf; have HP := SL_put HS.out x5 P0.out P1.out 4 (by decide) (wrap64 (wrap64 (wrap64 (wrap64 (x1 + 1) + 1) + 1) + 1))) | ((with_reducible refine gate_store (t := 3) (p := 46) rfl ?_); refine store_event (t := 3) (p := 46) (v := ?vo_w5) (w1 := (w4.setCell ⟨g, x5.toNat * 8 + 4, none⟩ (.int .i64 (wrap64 (wrap64 (wrap64 (wrap64 (x1 + 1) + 1) + 1) + 1))))) ?hg ?ho ?hn ?hr ?_; (case ho => rfl); (case hg => rfl); (case hn => rfl); (case hr => first | (go_simp; done) | (go_simp; rfl)); intro w5 hw; have hg : w4.grownBy w5 (some g) := (by rw [hw]; exact HP.2); have n0_ := Aside0.mk (show SL w5 w0.heap.size P0_ (.slice (some ⟨g, 0, none⟩) ls.length c0) ls from (by rw [hw]; exact HP.1)); have n1_ := Aside0.mk ((by rw [hw]; exact below_set (HB.out) GB.out : Below w0.heap.size w0 w5)); have n2_ := Aside0.mk (Kept.of_grown (S := P0_) hg HK.out (fun k_ e_ => .inl (by cases e_; exact GO.out))); clear HP HS HB HK hx0 hx1 hx2 hx3 hx4 hx5 hx6 hf0 hf1 hf2 hf3 hf4 hf5 hf6; have HS := n0_; have HB := n1_; have HK := n2_; clear n0_ n1_ n2_ hg hw; obtain ⟨⟨y0, y1, y2, y3, y4, y5, y6, hx0, hx1, hx2, hx3, hx4, hx5, hx6⟩, hf⟩ := SL_at HS.out x5 P0.out P1.out; have hf0 := hf 0; have hf1 := hf 1; have hf2 := hf 2; have hf3 := hf 3; have hf4 := hf 4; have hf5 := hf 5; have hf6 := hf 6; try simp only [Nat.add_zero] at hf0; clear hf; have HP := SL_put HS.out x5 P0.out P1.out 5 (by decide) (wrap64 (wrap64 (wrap64 (wrap64 (wrap64 (x1 + 1) + 1) + 1) + 1) + 1))) | ((with_reducible refine gate_store (t := 3) (p := 54) rfl ?_); refine store_event (t := 3) (p := 54) (v := ?vo_w6) (w1 := (w5.setCell ⟨g, x5.toNat * 8 + 5, none⟩ (.int .i64 (wrap64 (wrap64 (wrap64 (wrap64 (wrap64 (x1 + 1) + 1) + 1) + 1) + 1))))) ?hg ?ho ?hn ?hr ?_; (case ho => rfl); (case hg => rfl); (case hn => rfl); (case hr => first | (go_simp; done) | (go_simp; rfl)); intro w6 hw; have hg : w5.grownBy w6 (some g) := (by rw [hw]; exact HP.2); have n0_ := Aside0.mk (show SL w6 w0.heap.size P0_ (.slice (some ⟨g, 0, none⟩) ls.length c0) ls from (by rw [hw]; exact HP.1)); have n1_ := Aside0.mk ((by rw [hw]; exact below_set (HB.out) GB.out : Below w0.heap.size w0 w6)); have n2_ := Aside0.mk (Kept.of_grown (S := P0_) hg HK.out (fun k_ e_ => .inl (by cases e_; exact GO.out))); clear HP HS HB HK hx0 hx1 hx2 hx3 hx4 hx5 hx6 hf0 hf1 hf2 hf3 hf4 hf5 hf6; have HS := n0_; have HB := n1_; have HK := n2_; clear n0_ n1_ n2_ hg hw; obtain ⟨⟨y0, y1, y2, y3, y4, y5, y6, hx0, hx1, hx2, hx3, hx4, hx5, hx6⟩, hf⟩ := SL_at HS.out x5 P0.out P1.out; have hf0 := hf 0; have hf1 := hf 1; have hf2 := hf 2; have hf3 := hf 3; have hf4 := hf 4; have hf5 := hf 5; have hf6 := hf 6; try simp only [Nat.add_zero] at hf0; clear hf; have HP := SL_put HS.out x5 P0.out P1.out 6 (by decide) (wrap64 (wrap64 (wrap64 (wrap64 (wrap64 (wrap64 (x1 + 1) + 1) + 1) + 1) + 1) + 1))) | ((with_reducible refine gate_store (t := 3) (p := 62) rfl ?_); refine store_event (t := 3) (p := 62) (v := ?vo_w7) (w1 := (w6.setCell ⟨g, x5.toNat * 8 + 6, none⟩ (.int .i64 (wrap64 (wrap64 (wrap64 (wrap64 (wrap64 (wrap64 (x1 + 1) + 1) + 1) + 1) + 1) + 1))))) ?hg ?ho ?hn ?hr ?_; (case ho => rfl); (case hg => rfl); (case hn => rfl); (case hr => first | (go_simp; done) | (go_simp; rfl)); intro w7 hw; have hg : w6.grownBy w7 (some g) := (by rw [hw]; exact HP.2); have n0_ := Aside0.mk (show SL w7 w0.heap.size P0_ (.slice (some ⟨g, 0, none⟩) ls.length c0) ls from (by rw [hw]; exact HP.1)); have n1_ := Aside0.mk ((by rw [hw]; exact below_set (HB.out) GB.out : Below w0.heap.size w0 w7)); have n2_ := Aside0.mk (Kept.of_grown (S := P0_) hg HK.out (fun k_ e_ => .inl (by cases e_; exact GO.out))); clear HP HS HB HK hx0 hx1 hx2 hx3 hx4 hx5 hx6 hf0 hf1 hf2 hf3 hf4 hf5 hf6; have HS := n0_; have HB := n1_; have HK := n2_; clear n0_ n1_ n2_ hg hw; obtain ⟨v7, l7, oki, hx7, hl7, hr7, hok7, hback⟩ := SL_inner HS.out x5 P0.out P1.out; have HR7 := Aside0.mk hr7; have HX := Aside0.mk hback; have HO7 := Aside0.mk hok7; clear hr7 hback hok7; have HL7 := Aside0.mk hl7; clear hl7; obtain ⟨kk, l8, hrun, hl8⟩ := (by have hq := HQ.out; rw [← HL7.out] at hq; exact markInt_run l7.length l7 (x1 + 7) 0 (by omega) (by omega) hq.1 hq.2.1 hq.2.2 : ∃ k l', laws_markIntS.l0 k l7 (x1 + 7) 0 = some (x1 + 7 + (l7.length : Int), l') ∧ l'.length = l7.length); have HF : Aside0 (laws_markIntS.f kk l7 (wrap64 (wrap64 (wrap64 (wrap64 (wrap64 (wrap64 (wrap64 (x1 + 1) + 1) + 1) + 1) + 1) + 1) + 1)) = some (x1 + 7 + (l7.length : Int), l8)) := ⟨by rw [W7.out]; exact hrun⟩; have HL8 := Aside0.mk hl8; clear hrun hl8) | (go_at_call 49; (with_reducible refine (laws_markIntS.calls kk oki v7 l7 (wrap64 (wrap64 (wrap64 (wrap64 (wrap64 (wrap64 (wrap64 (x1 + 1) + 1) + 1) + 1) + 1) + 1) + 1)) _ _ w0 _ ?side1 ?side2 HF.out).mono ?_); (case side1 => exact HB.out); (case side2 => exact HR7.out); rintro e w8 ⟨rfl, hr_, hb_, hk_⟩; have n0_ := Aside0.mk (HX.out w8 l8 hk_ HL8.out hr_); have n1_ := Aside0.mk hb_; have n2_ := Aside0.mk (Kept.then_ HK.out hk_ (fun k_ h_ => .inl (HO7.out k_ h_))); clear HS HB HK hr_ hb_ hk_; have HS := n0_; have HB := n1_; have HK := n2_; clear n0_ n1_ n2_)); try go_wp2_with (first | ((with_reducible refine gate_store (t := 3) (p := 16) rfl ?_); refine store_event (t := 3) (p := 16) (v := ?vo_w1) (w1 := (wr.setCell ⟨g, x5.toNat * 8, none⟩ (.int .i64 (x1)))) ?hg ?ho ?hn ?hr ?_; (case ho => rfl); (case hg => rfl); (case hn => rfl); (case hr => first | (go_simp; done) | (go_simp; rfl)); intro w1 hw; have hg : wr.grownBy w1 (some g) := (by rw [hw]; exact HP.2); have n0_ := Aside0.mk (show SL w1 w0.heap.size P0_ (.slice (some ⟨g, 0, none⟩) ls.length c0) ls from (by rw [hw]; exact HP.1)); have n1_ := Aside0.mk ((by rw [hw]; exact below_set (HB.out) GB.out : Below w0.heap.size w0 w1)); have n2_ := Aside0.mk (Kept.of_grown (S := P0_) hg HK.out (fun k_ e_ => .inl (by cases e_; exact GO.out))); clear HP HS HB HK hx0 hx1 hx2 hx3 hx4 hx5 hx6 hf0 hf1 hf2 hf3 hf4 hf5 hf6; have HS := n0_; have HB := n1_; have HK := n2_; clear n0_ n1_ n2_ hg hw; obtain ⟨⟨y0, y1, y2, y3, y4, y5, y6, hx0, hx1, hx2, hx3, hx4, hx5, hx6⟩, hf⟩ := SL_at HS.out x5 P0.out P1.out; have hf0 := hf 0; have hf1 := hf 1; have hf2 := hf 2; have hf3 := hf 3; have hf4 := hf 4; have hf5 := hf 5; have hf6 := hf 6; try simp only [Nat.add_zero] at hf0; clear hf; have HP := SL_put HS.out x5 P0.out P1.out 1 (by decide) (wrap64 (x1 + 1))) | ((with_reducible refine gate_store (t := 3) (p := 23) rfl ?_); refine store_event (t := 3) (p := 23) (v := ?vo_w2) (w1 := (w1.setCell ⟨g, x5.toNat * 8 + 1, none⟩ (.int .i64 (wrap64 (x1 + 1))))) ?hg ?ho ?hn ?hr ?_; (case ho => rfl); (case hg => rfl); (case hn => rfl); (case hr => first | (go_simp; done) | (go_simp; rfl)); intro w2 hw; have hg : w1.grownBy w2 (some g) := (by rw [hw]; exact HP.2); have n0_ := Aside0.mk (show SL w2 w0.heap.size P0_ (.slice (some ⟨g, 0, none⟩) ls.length c0) ls from (by rw [hw]; exact HP.1)); have n1_ := Aside0.mk ((by rw [hw]; exact below_set (HB.out) GB.out : Below w0.heap.size w0 w2)); have n2_ := Aside0.mk (Kept.of_grown (S := P0_) hg HK.out (fun k_ e_ => .inl (by cases e_; exact GO.out))); clear HP HS HB HK hx0 hx1 hx2 hx3 hx4 hx5 hx6 hf0 hf1 hf2 hf3 hf4 hf5 hf6; have HS := n0_; have HB := n1_; have HK := n2_; clear n0_ n1_ n2_ hg hw; obtain ⟨⟨y0, y1, y2, y3, y4, y5, y6, hx0, hx1, hx2, hx3, hx4, hx5, hx6⟩, hf⟩ := SL_at HS.out x5 P0.out P1.out; have hf0 := hf 0; have hf1 := hf 1; have hf2 := hf 2; have hf3 := hf 3; have hf4 := hf 4; have hf5 := hf 5; have hf6 := hf 6; try simp only [Nat.add_zero] at hf0; clear hf; have HP := SL_put HS.out x5 P0.out P1.out 2 (by decide) (wrap64 (wrap64 (x1 + 1) + 1))) | ((with_reducible refine gate_store (t := 3) (p := 30) rfl ?_); refine store_event (t := 3) (p := 30) (v := ?vo_w3) (w1 := (w2.setCell ⟨g, x5.toNat * 8 + 2, none⟩ (.int .i64 (wrap64 (wrap64 (x1 + 1) + 1))))) ?hg ?ho ?hn ?hr ?_; (case ho => rfl); (case hg => rfl); (case hn => rfl); (case hr => first | (go_simp; done) | (go_simp; rfl)); intro w3 hw; have hg : w2.grownBy w3 (some g) := (by rw [hw]; exact HP.2); have n0_ := Aside0.mk (show SL w3 w0.heap.size P0_ (.slice (some ⟨g, 0, none⟩) ls.length c0) ls from (by rw [hw]; exact HP.1)); have n1_ := Aside0.mk ((by rw [hw]; exact below_set (HB.out) GB.out : Below w0.heap.size w0 w3)); have n2_ := Aside0.mk (Kept.of_grown (S := P0_) hg HK.out (fun k_ e_ => .inl (by cases e_; exact GO.out))); clear HP HS HB HK hx0 hx1 hx2 hx3 hx4 hx5 hx6 hf0 hf1 hf2 hf3 hf4 hf5 hf6; have HS := n0_; have HB := n1_; have HK := n2_; clear n0_ n1_ n2_ hg hw; obtain ⟨⟨y0, y1, y2, y3, y4, y5, y6, hx0, hx1, hx2, hx3, hx4, hx5, hx6⟩, hf⟩ := SL_at HS.out x5 P0.out P1.out; have hf0 := hf 0; have hf1 := hf 1; have hf2 := hf 2; have hf3 := hf 3; have hf4 := hf 4; have hf5 := hf 5; have hf6 := hf 6; try simp only [Nat.add_zero] at hf0; clear hf; have HP := SL_put HS.out x5 P0.out P1.out 3 (by decide) (wrap64 (wrap64 (wrap64 (x1 + 1) + 1) + 1))) | ((with_reducible refine gate_store (t := 3) (p := 38) rfl ?_); refine store_event (t := 3) (p := 38) (v := ?vo_w4) (w1 := (w3.setCell ⟨g, x5.toNat * 8 + 3, none⟩ (.int .i64 (wrap64 (wrap64 (wrap64 (x1 + 1) + 1) + 1))))) ?hg ?ho ?hn ?hr ?_; (case ho => rfl); (case hg => rfl); (case hn => rfl); (case hr => first | (go_simp; done) | (go_simp; rfl)); intro w4 hw; have hg : w3.grownBy w4 (some g) := (by rw [hw]; exact HP.2); have n0_ := Aside0.mk (show SL w4 w0.heap.size P0_ (.slice (some ⟨g, 0, none⟩) ls.length c0) ls from (by rw [hw]; exact HP.1)); have n1_ := Aside0.mk ((by rw [hw]; exact below_set (HB.out) GB.out : Below w0.heap.size w0 w4)); have n2_ := Aside0.mk (Kept.of_grown (S := P0_) hg HK.out (fun k_ e_ => .inl (by cases e_; exact GO.out))); clear HP HS HB HK hx0 hx1 hx2 hx3 hx4 hx5 hx6 hf0 hf1 hf2 hf3 hf4 hf5 hf6; have HS := n0_; have HB := n1_; have HK := n2_; clear n0_ n1_ n2_ hg hw; obtain ⟨⟨y0, y1, y2, y3, y4, y5, y6, hx0, hx1, hx2, hx3, hx4, hx5, hx6⟩, hf⟩ := SL_at HS.out x5 P0.out P1.out; have hf0 := hf 0; have hf1 := hf 1; have hf2 := hf 2; have hf3 := hf 3; have hf4 := hf 4; have hf5 := hf 5; have hf6 := hf 6; try simp only [Nat.add_zero] at hf0; clear hf; have HP := SL_put HS.out x5 P0.out P1.out 4 (by decide) (wrap64 (wrap64 (wrap64 (wrap64 (x1 + 1) + 1) + 1) + 1))) | ((with_reducible refine gate_store (t := 3) (p := 46) rfl ?_); refine store_event (t := 3) (p := 46) (v := ?vo_w5) (w1 := (w4.setCell ⟨g, x5.toNat * 8 + 4, none⟩ (.int .i64 (wrap64 (wrap64 (wrap64 (wrap64 (x1 + 1) + 1) + 1) + 1))))) ?hg ?ho ?hn ?hr ?_; (case ho => rfl); (case hg => rfl); (case hn => rfl); (case hr => first | (go_simp; done) | (go_simp; rfl)); intro w5 hw; have hg : w4.grownBy w5 (some g) := (by rw [hw]; exact HP.2); have n0_ := Aside0.mk (show SL w5 w0.heap.size P0_ (.slice (some ⟨g, 0, none⟩) ls.length c0) ls from (by rw [hw]; exact HP.1)); have n1_ := Aside0.mk ((by rw [hw]; exact below_set (HB.out) GB.out : Below w0.heap.size w0 w5)); have n2_ := Aside0.mk (Kept.of_grown (S := P0_) hg HK.out (fun k_ e_ => .inl (by cases e_; exact GO.out))); clear HP HS HB HK hx0 hx1 hx2 hx3 hx4 hx5 hx6 hf0 hf1 hf2 hf3 hf4 hf5 hf6; have HS := n0_; have HB := n1_; have HK := n2_; clear n0_ n1_ n2_ hg hw; obtain ⟨⟨y0, y1, y2, y3, y4, y5, y6, hx0, hx1, hx2, hx3, hx4, hx5, hx6⟩, hf⟩ := SL_at HS.out x5 P0.out P1.out; have hf0 := hf 0; have hf1 := hf 1; have hf2 := hf 2; have hf3 := hf 3; have hf4 := hf 4; have hf5 := hf 5; have hf6 := hf 6; try simp only [Nat.add_zero] at hf0; clear hf; have HP := SL_put HS.out x5 P0.out P1.out 5 (by decide) (wrap64 (wrap64 (wrap64 (wrap64 (wrap64 (x1 + 1) + 1) + 1) + 1) + 1))) | ((with_reducible refine gate_store (t := 3) (p := 54) rfl ?_); refine store_event (t := 3) (p := 54) (v := ?vo_w6) (w1 := (w5.setCell ⟨g, x5.toNat * 8 + 5, none⟩ (.int .i64 (wrap64 (wrap64 (wrap64 (wrap64 (wrap64 (x1 + 1) + 1) + 1) + 1) + 1))))) ?hg ?ho ?hn ?hr ?_; (case ho => rfl); (case hg => rfl); (case hn => rfl); (case hr => first | (go_simp; done) | (go_simp; rfl)); intro w6 hw; have hg : w5.grownBy w6 (some g) := (by rw [hw]; exact HP.2); have n0_ := Aside0.mk (show SL w6 w0.heap.size P0_ (.slice (some ⟨g, 0, none⟩) ls.length c0) ls from (by rw [hw]; exact HP.1)); have n1_ := Aside0.mk ((by rw [hw]; exact below_set (HB.out) GB.out : Below w0.heap.size w0 w6)); have n2_ := Aside0.mk (Kept.of_grown (S := P0_) hg HK.out (fun k_ e_ => .inl (by cases e_; exact GO.out))); clear HP HS HB HK hx0 hx1 hx2 hx3 hx4 hx5 hx6 hf0 hf1 hf2 hf3 hf4 hf5 hf6; have HS := n0_; have HB := n1_; have HK := n2_; clear n0_ n1_ n2_ hg hw; obtain ⟨⟨y0, y1, y2, y3, y4, y5, y6, hx0, hx1, hx2, hx3, hx4, hx5, hx6⟩, hf⟩ := SL_at HS.out x5 P0.out P1.out; have hf0 := hf 0; have hf1 := hf 1; have hf2 := hf 2; have hf3 := hf 3; have hf4 := hf 4; have hf5 := hf 5; have hf6 := hf 6; try simp only [Nat.add_zero] at hf0; clear hf; have HP := SL_put HS.out x5 P0.out P1.out 6 (by decide) (wrap64 (wrap64 (wrap64 (wrap64 (wrap64 (wrap64 (x1 + 1) + 1) + 1) + 1) + 1) + 1))) | ((with_reducible refine gate_store (t := 3) (p := 62) rfl ?_); refine store_event (t := 3) (p := 62) (v := ?vo_w7) (w1 := (w6.setCell ⟨g, x5.toNat * 8 + 6, none⟩ (.int .i64 (wrap64 (wrap64 (wrap64 (wrap64 (wrap64 (wrap64 (x1 + 1) + 1) + 1) + 1) + 1) + 1))))) ?hg ?ho ?hn ?hr ?_; (case ho => rfl); (case hg => rfl); (case hn => rfl); (case hr => first | (go_simp; done) | (go_simp; rfl)); intro w7 hw; have hg : w6.grownBy w7 (some g) := (by rw [hw]; exact HP.2); have n0_ := Aside0.mk (show SL w7 w0.heap.size P0_ (.slice (some ⟨g, 0, none⟩) ls.length c0) ls from (by rw [hw]; exact HP.1)); have n1_ := Aside0.mk ((by rw [hw]; exact below_set (HB.out) GB.out : Below w0.heap.size w0 w7)); have n2_ := Aside0.mk (Kept.of_grown (S := P0_) hg HK.out (fun k_ e_ => .inl (by cases e_; exact GO.out))); clear HP HS HB HK hx0 hx1 hx2 hx3 hx4 hx5 hx6 hf0 hf1 hf2 hf3 hf4 hf5 hf6; have HS := n0_; have HB := n1_; have HK := n2_; clear n0_ n1_ n2_ hg hw; obtain ⟨v7, l7, oki, hx7, hl7, hr7, hok7, hback⟩ := SL_inner HS.out x5 P0.out P1.out; have HR7 := Aside0.mk hr7; have HX := Aside0.mk hback; have HO7 := Aside0.mk hok7; clear hr7 hback hok7; have HL7 := Aside0.mk hl7; clear hl7; obtain ⟨kk, l8, hrun, hl8⟩ := (by have hq := HQ.out; rw [← HL7.out] at hq; exact markInt_run l7.length l7 (x1 + 7) 0 (by omega) (by omega) hq.1 hq.2.1 hq.2.2 : ∃ k l', laws_markIntS.l0 k l7 (x1 + 7) 0 = some (x1 + 7 + (l7.length : Int), l') ∧ l'.length = l7.length); have HF : Aside0 (laws_markIntS.f kk l7 (wrap64 (wrap64 (wrap64 (wrap64 (wrap64 (wrap64 (wrap64 (x1 + 1) + 1) + 1) + 1) + 1) + 1) + 1)) = some (x1 + 7 + (l7.length : Int), l8)) := ⟨by rw [W7.out]; exact hrun⟩; have HL8 := Aside0.mk hl8; clear hrun hl8) | (go_at_call 49; (with_reducible refine (laws_markIntS.calls kk oki v7 l7 (wrap64 (wrap64 (wrap64 (wrap64 (wrap64 (wrap64 (wrap64 (x1 + 1) + 1) + 1) + 1) + 1) + 1) + 1)) _ _ w0 _ ?side1 ?side2 HF.out).mono ?_); (case side1 => exact HB.out); (case side2 => exact HR7.out); rintro e w8 ⟨rfl, hr_, hb_, hk_⟩; have n0_ := Aside0.mk (HX.out w8 l8 hk_ HL8.out hr_); have n1_ := Aside0.mk hb_; have n2_ := Aside0.mk (Kept.then_ HK.out hk_ (fun k_ h_ => .inl (HO7.out k_ h_))); clear HS HB HK hr_ hb_ hk_; have HS := n0_; have HB := n1_; have HK := n2_; clear n0_ n1_ n2_)))
        go_roundg k1
        case measure => exact Nat.lt_succ_self _
        case rel => exact ⟨x1 + 7 + (l7.length : Int), wrap64 (x5 + 1), rfl, rfl, ⟨by
          have hlb := HL.out
          have q0 := P0.out
          have q1 := P1.out
          have e5 : wrap64 (x5 + 1) = x5 + 1 := by unfold wrap64; omega
          rw [e5]
          have htk := HT.out
          have hx := HI.out.2.2
          have hl7 := HL7.out
          refine ⟨by omega, by omega, ?_⟩
          rw [show (x5 + 1).toNat = x5.toNat + 1 by omega, htk, hx, hl7]
          omega⟩, ⟨by
          have hlb := HL.out
          have q0 := P0.out
          have q1 := P1.out
          have e5 : wrap64 (x5 + 1) = x5 + 1 := by unfold wrap64; omega
          rw [e5]
          have := HK1.out
          omega⟩, HS, HK, HB⟩
      · have c3b0 : decide (x5 < (ls.length : Int)) = false := decide_eq_false c3
        have hi := HI.out
        obtain rfl : x1 = a1 + marked ls := by rw [hi.2.2, show x5.toNat = ls.length by omega, List.take_length]
        clear hi c3
        go_wp2
        go_ret
        exact ⟨rfl, HB.out, HK.out⟩



/-! ### laws_markProg: function 23 -/
theorem SL_below {w w1 : World} {base : Nat} {ok : Nat → Prop} {v : Value} {ls : List Nat} (h : SL w base ok v ls) (hb : Below w.heap.size w w1) : SL w1 base ok v ls := by
  obtain ⟨xs, hS, e⟩ := h
  exact ⟨xs, Kd.S_below hS hb, e⟩
set_option maxHeartbeats 4000000 in
set_option maxRecDepth 100000 in
theorem laws_markProg.calls (P0_ : Nat → Prop) (v : Value) (ls : List Nat) (a1 : Int) (w0 w : World) (hB : Below w0.heap.size w0 w) (ho : SL w w0.heap.size P0_ v ls) (ha : 0 ≤ a1) (hs : a1 + marked ls < 1152921504606846976) (hl : (ls.length : Int) < 1152921504606846976) :
    Calls Try.prog 23 #[.agg #[v], .int .i64 a1] w fun e w' => e = .returned (.int .i64 (a1 + marked ls)) ∧ Below w0.heap.size w0 w' ∧ Kept w w' P0_ := by
  have hu2 := Try.underlying29
  have HS := Aside0.mk ho
  have HB := Aside0.mk hB
  have HK := Aside0.mk (Kept.refl w P0_)
  have HA := Aside0.mk ha
  have HM := Aside0.mk hs
  have HL := Aside0.mk hl
  clear ho hB ha hs hl
  obtain ⟨A0, c0, rfl⟩ := SL_len HS.out
  go_enter Try.func23, Try.ntmps23
  go_wp2_with (first | ((with_reducible refine gate_dst (N := 2) rfl ?_); refine box_event ?hg (N := 2) ?hd (cs := #[.slice A0 ls.length c0]) (t := 29) ?hr ?_; (case hd => rfl); (case hg => rfl); (case hr => first | (go_simp; done) | (go_simp; rfl)); intro g1 hg w1 hbox hb; have n0_ := Aside0.mk (SL_below HS.out hb); have n1_ := Aside0.mk (below_step HB.out hb); have n2_ := Aside0.mk (Kept.below HK.out hb); have hz0 : w1.cell? ⟨g1, 0, none⟩ = some (.slice A0 ls.length c0) := (blk_cell hbox 0).trans rfl; clear HS HB HK hb hbox hg; have HS := n0_; have HB := n1_; have HK := n2_; clear n0_ n1_ n2_) | (go_at_call 70; (with_reducible refine (laws_markStepS.calls P0_ _ ls a1 w0 _ ?side1 ?side2 HA.out HM.out HL.out).mono ?_); (case side1 => exact HB.out); (case side2 => exact HS.out); rintro e w2 ⟨rfl, hb_, hk_⟩; have n1_ := Aside0.mk hb_; have n2_ := Aside0.mk (Kept.then_ HK.out hk_ (fun k_ h_ => .inl h_)); clear HS HB HK hb_ hk_ hz0; have HB := n1_; have HK := n2_; clear n1_ n2_))
  go_ret
  exact ⟨rfl, HB.out, HK.out⟩

end Go.Proofs.Ytkehjekbglajhaa.F
