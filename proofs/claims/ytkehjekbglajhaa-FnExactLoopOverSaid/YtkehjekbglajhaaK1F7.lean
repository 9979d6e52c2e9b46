-- printed by wip/myprint.py, a program that runs the kit's print.py patched in memory; hand-made contracts stand where that program has none. Not trusted: Lean checks it.
import Derived.Test.YtkehjekbglajhaaK1F0
namespace Go.Proofs.Ytkehjekbglajhaa.F
open Go.RowKit Go.Proofs.YtkehjekbglajhaaW.PrintWords Go.Proofs.YtkehjekbglajhaaW.PrintLast
set_option linter.unusedVariables false
set_option linter.unusedSimpArgs false

def laws_markIntS.l0 : Nat → List Int → Int → Int → Option (Int × List Int)
 | 0, _, _, _ => none
 | k + 1, x0, x1, x5 => if x5 < (x0.length : Int) then (if 0 ≤ x5 then (laws_markIntS.l0 k (x0.set (x5 : Int).toNat x1) (wrap64 (x1 + 1)) (wrap64 (x5 + 1))) else (none)) else (some (x1, x0))
def laws_markIntS.f (k : Nat) (l0 : List Int) (a1 : Int) : Option (Int × List Int) := laws_markIntS.l0 k l0 a1 0
set_option maxHeartbeats 8000000 in
set_option maxRecDepth 100000 in
theorem laws_markIntS.calls (k : Nat) (P0_ : Nat → Prop) (u9000_ : Value) (l0 : List Int) (a1 : Int) (r1 : Int) (r2 : List Int) (w0 w : World) (hB : Below w0.heap.size w0 w) (ho0 : Kd.R (Kd.int .i64) 3 w w0.heap.size P0_ u9000_ l0) (h : laws_markIntS.f k l0 a1 = some (r1, r2)) :
  Calls Try.prog 49 #[u9000_, .int .i64 a1] w fun e w' => e = .returned (.int .i64 r1) ∧ Kd.R (Kd.int .i64) 3 w' w0.heap.size (fun k_ => (P0_ k_ ∨ w.heap.size ≤ k_)) u9000_ r2 ∧ Below w0.heap.size w0 w' ∧ Kept w w' (fun k_ => P0_ k_) := by
 have HO0 := Aside0.mk (show Kd.R (Kd.int .i64) 3 w w0.heap.size (fun k_ => (P0_ k_ ∨ w.heap.size ≤ k_)) u9000_ l0 from Kd.R_mono ho0 (fun k_ hk => (.inl hk)))
 have HK := Aside0.mk (Kept.refl w (fun k_ => P0_ k_))
 have HW0 := Aside0.mk hB.size
 have HB := Aside0.mk hB
 clear hB
 have H : (laws_markIntS.l0 k l0 a1 0) = some (r1, r2) := h
 clear h
 have H' := Aside0.mk H
 clear H
 go_enter Try.func49, Try.ntmps49
 go_wp2
 go_loopg [1, 5] k (fun kq v1 v5 w' => ∃ (x0_1 : List Int) (x1_1 : Int) (x5_1 : Int), v1 = .int .i64 x1_1 ∧ v5 = .int .i64 x5_1 ∧ Aside0 (laws_markIntS.l0 kq x0_1 x1_1 x5_1 = some (r1, r2)) ∧ Aside0 (kq ≤ k) ∧ Aside0 (Kd.R (Kd.int .i64) 3 w' w0.heap.size (fun k_ => (P0_ k_ ∨ w.heap.size ≤ k_)) u9000_ x0_1) ∧ Aside0 (Kept w w' (fun k_ => P0_ k_)) ∧ Aside0 (Below w0.heap.size w0 w'))
 case atStart => exact ⟨(l0), (a1), (0), (by first | rfl | (simp; done) | (simp [*]; done)), (by first | rfl | (simp; done) | (simp [*]; done)), H', ⟨Nat.le_refl _⟩, ⟨by (with_reducible repeat (first | apply Kd.R_alloc | apply Kd.R_drewN | apply Kd.R_drew)); exact HO0.out⟩, ⟨by repeat (first | (with_reducible first | exact HK.out | apply Kept.alloc | apply Kept.drewN | apply Kept.drew) | exact HK.out)⟩, ⟨bel HB.out⟩⟩
 case round =>
  clear H'
  obtain ⟨x0_1, x1_1, x5_1, rfl, rfl, HA, HK1, HO_0, HK, HB⟩ := hrel
  cases gk with
  | zero => exact absurd HA.out (by simp [laws_markIntS.l0])
  | succ k1 =>
   have H := HA.out
   clear HA
   simp only [laws_markIntS.l0] at H
   by_cases c3 : x5_1 < (x0_1.length : Int)
   ·rw [if_pos c3] at H
    have c3b0 : decide (x5_1 < (x0_1.length : Int)) = true := decide_eq_true c3
    clear c3
    by_cases c4 : 0 ≤ x5_1
    ·rw [if_pos c4] at H
     have c4b0 : decide (0 ≤ x5_1) = true := decide_eq_true c4
     clear c4
     obtain ⟨y291, hy291⟩ : ∃ y_ : List Int, y_ = (x0_1.set (x5_1 : Int).toNat x1_1) := ⟨_, rfl⟩
     replace H : (laws_markIntS.l0 k1 y291 (wrap64 (x1_1 + 1)) (wrap64 (x5_1 + 1))) = some (r1, r2) := by first | (rw [hy291]; with_reducible exact H) | (have H2_ := (Option.bind_some _ _).symm.trans H; rw [hy291]; with_reducible exact H2_) | (have H2_ := (Option.bind_some _ _).symm.trans H; with_reducible exact H2_) | with_reducible exact H | (rw [hy291]; exact H) | exact H
     have Ny291 := Aside0.mk hy291
     clear hy291
     have H' := Aside0.mk H
     clear H
     obtain ⟨Ao6, co6, eo6⟩ := Kd.R_slice HO_0.out
     subst eo6
     have p5 : 0 ≤ (x5_1 : Int) := of_decide_eq_true (by first | (with_reducible assumption) | assumption)
     have q5 : (x5_1 : Int) < ((x0_1.length : Int) : Int) := of_decide_eq_true (by first | (with_reducible assumption) | assumption)
     obtain ⟨go5, co5, eo5, gb5, gl5, cl5, HG5⟩ := Kd.R_form HO_0.out (by omega)
     (first | cases eo5 | (injection eo5 with ea_ en_ ec_; (first | subst ea_ | (injection ea_ with ea_; subst ea_)); subst ec_; clear en_))
     have GB5 := Aside0.mk gb5
     have GG5 := Aside0.mk HG5
     clear gb5 gl5 HG5
     have HMgo5 := Aside0.mk (show (P0_ go5 ∨ w.heap.size ≤ go5) from (HO_0.out.1 _ rfl))
     obtain ⟨hx5_0, hf5_0⟩ := Kd.R_celln 0 HO_0.out (x5_1 : Int) p5 q5
     replace p5 := eq_true p5
     replace q5 := eq_true q5
     have HP7 := Kd.R_putg HO_0.out (x5_1 : Int) x1_1
     go_wp2_with (first | ((with_reducible refine gate_store (t := 3) (p := 15) rfl ?_); refine store_event (t := 3) (p := 15) (v := ?vo_w8) (w1 := (wr.setCell ⟨go5, (x5_1 : Int).toNat, none⟩ (.int .i64 x1_1))) ?hg ?ho ?hn ?hr ?_; (case ho => rfl); (case hg => rfl); (case hn => rfl); (case hr => first | (go_simp; done) | (go_simp; rfl)); intro w8 hw; have hg : wr.grownBy w8 (some go5) := (by rw [hw]; exact HP7.2); have hp_ : Kd.R (Kd.int .i64) 3 w8 w0.heap.size (fun k_ => (P0_ k_ ∨ w.heap.size ≤ k_)) (.slice (some ⟨go5, 0, none⟩) x0_1.length co6) y291 := (by rw [hw, Ny291.out]; exact HP7.1); clear HP7; have n0_ := Aside0.mk (hp_); have n1_ := Aside0.mk ((by rw [hw]; exact below_set (HB.out) GB5.out : Below w0.heap.size w0 w8)); have n2_ := Aside0.mk (Kept.of_grown (S := (fun k_ => P0_ k_)) hg (by repeat (first | (with_reducible first | exact HK.out | apply Kept.alloc | apply Kept.drewN | apply Kept.drew) | exact HK.out)) (fun k_ e_ => (HO_0.out.1 k_ e_))); clear HO_0; clear HB; clear HK; have HO_0 := n0_; have HB := n1_; have HK := n2_; clear n0_ n1_ n2_; clear hg hw hp_))
     go_roundg k1
     case measure => have := HK1.out; omega
     case rel => exact ⟨(y291), (wrap64 (x1_1 + 1)), (wrap64 (x5_1 + 1)), (by first | rfl | (simp; done) | (simp [*]; done)), (by first | rfl | (simp; done) | (simp [*]; done)), H', ⟨by have := HK1.out; omega⟩, ⟨by (with_reducible repeat (first | apply Kd.R_alloc | apply Kd.R_drewN | apply Kd.R_drew)); exact HO_0.out⟩, ⟨by repeat (first | (with_reducible first | exact HK.out | apply Kept.alloc | apply Kept.drewN | apply Kept.drew) | exact HK.out)⟩, ⟨bel HB.out⟩⟩
    ·rw [if_neg c4] at H
     exact absurd H (by simp)
   ·rw [if_neg c3] at H
    have c3b0 : decide (x5_1 < (x0_1.length : Int)) = false := decide_eq_false c3
    clear c3
    simp only [Option.some.injEq, Prod.mk.injEq] at H
    obtain ⟨rfl, rfl⟩ := H
    obtain ⟨Ao9, co9, eo9⟩ := Kd.R_slice HO_0.out
    subst eo9
    go_wp2
    go_ret
    exact ⟨by first | rfl | (simp [errW_none, errW_some] <;> rfl) | (simp [*, errW_none, errW_some] <;> rfl), by (with_reducible repeat (first | apply Kd.R_alloc | apply Kd.R_drewN | apply Kd.R_drew)); exact HO_0.out, bel HB.out, by repeat (first | (with_reducible first | exact HK.out | apply Kept.alloc | apply Kept.drewN | apply Kept.drew) | exact HK.out)⟩

theorem ST_self (l : List S68) (i : Int) (h0 : 0 ≤ i) (h1 : i < l.length) : l.set i.toNat (rd_T68 l i) = l := by
  rw [show rd_T68 l i = l[i.toNat]'(by omega) from getD_getElem l _ i h0 (by omega)]
  exact List.set_getElem_self _
theorem ST_at {w : World} {base : Nat} {ok : Nat → Prop} {x0 : List S68} {y : S68} {i : Int} {g n cap : Nat} (h : Kd.S k68 68 w base ok (.slice (some ⟨g, 0, none⟩) n cap) (x0.set i.toNat y)) (h0 : 0 ≤ i) (h1 : i < x0.length) :
    (w.cell? ⟨g, i.toNat * 8, none⟩ = some (.int .i64 (y).f0) ∧ w.cell? ⟨g, i.toNat * 8 + 1, none⟩ = some (.int .i64 (y).f1) ∧ w.cell? ⟨g, i.toNat * 8 + 2, none⟩ = some (.int .i64 (y).f2) ∧ w.cell? ⟨g, i.toNat * 8 + 3, none⟩ = some (.int .i64 (y).f3.f0) ∧ w.cell? ⟨g, i.toNat * 8 + 4, none⟩ = some (.int .i64 (y).f3.f1) ∧ w.cell? ⟨g, i.toNat * 8 + 5, none⟩ = some (.int .i64 (y).f4.f0) ∧ w.cell? ⟨g, i.toNat * 8 + 6, none⟩ = some (.int .i64 (y).f4.f1)) ∧ ∀ j, w.frozen? ⟨g, i.toNat * 8 + j, none⟩ = false := by
  have hy : (x0.set i.toNat y).getD i.toNat z68 = y := by
    rw [List.getD_eq_getElem?_getD, List.getElem?_set_self (by omega)]
    rfl
  obtain ⟨hn, _, _⟩ := Kd.S_reads' h
  rw [List.length_set] at hn
  obtain ⟨oki, c, hcl, hM, hcc, hfr, hoki, hH⟩ := Kd.S_elem h z68 i h0 (by omega)
  rw [hy] at hM
  obtain ⟨v7, rfl, hR⟩ := k68_openM hM
  exact ⟨⟨hcc 0 _ rfl, hcc 1 _ rfl, hcc 2 _ rfl, hcc 3 _ rfl, hcc 4 _ rfl, hcc 5 _ rfl, hcc 6 _ rfl⟩, hfr⟩
theorem ST_put0 {w : World} {base : Nat} {ok : Nat → Prop} {x0 : List S68} {y : S68} {i : Int} {g n cap : Nat} (h : Kd.S k68 68 w base ok (.slice (some ⟨g, 0, none⟩) n cap) (x0.set i.toNat y)) (h0 : 0 ≤ i) (h1 : i < x0.length) (u : Int) :
    Kd.S k68 68 (w.setCell ⟨g, i.toNat * 8, none⟩ (.int .i64 u)) base ok (.slice (some ⟨g, 0, none⟩) n cap) (x0.set i.toNat (⟨u, (y).f1, (y).f2, ⟨(y).f3.f0, (y).f3.f1⟩, ⟨(y).f4.f0, (y).f4.f1⟩, (y).f5⟩ : S68)) ∧ w.grownBy (w.setCell ⟨g, i.toNat * 8, none⟩ (.int .i64 u)) (some g) := by
  have hy : (x0.set i.toNat y).getD i.toNat z68 = y := by
    rw [List.getD_eq_getElem?_getD, List.getElem?_set_self (by omega)]
    rfl
  obtain ⟨hn, _, _⟩ := Kd.S_reads' h
  rw [List.length_set] at hn
  have hS' := Kd.S_mono (ok' := fun k => ok k ∧ ¬ (fun _ => False) k) h (fun k hk => ⟨hk, id⟩)
  obtain ⟨oki, c, hcl, hM, hcc, hfr, hoki, hH⟩ := Kd.S_elem hS' z68 i h0 (by omega)
  rw [hy] at hM
  obtain ⟨v7, rfl, hR⟩ := k68_openM hM
  have q := Kd.S_seg (okg := fun _ => False) hH h0 (by omega) (seg := [.int .i64 u]) (j := 0) (show 0 + 1 ≤ 8 by omega) (k68_mkM _ _ _ (⟨u, (y).f1, (y).f2, ⟨(y).f3.f0, (y).f3.f1⟩, ⟨(y).f4.f0, (y).f4.f1⟩, (y).f5⟩ : S68) hR) (fun k hk => Or.inl hk) (fun k hk => hk.elim)
  rw [List.set_set] at q
  exact q
theorem ST_put1 {w : World} {base : Nat} {ok : Nat → Prop} {x0 : List S68} {y : S68} {i : Int} {g n cap : Nat} (h : Kd.S k68 68 w base ok (.slice (some ⟨g, 0, none⟩) n cap) (x0.set i.toNat y)) (h0 : 0 ≤ i) (h1 : i < x0.length) (u : Int) :
    Kd.S k68 68 (w.setCell ⟨g, i.toNat * 8 + 1, none⟩ (.int .i64 u)) base ok (.slice (some ⟨g, 0, none⟩) n cap) (x0.set i.toNat (⟨(y).f0, u, (y).f2, ⟨(y).f3.f0, (y).f3.f1⟩, ⟨(y).f4.f0, (y).f4.f1⟩, (y).f5⟩ : S68)) ∧ w.grownBy (w.setCell ⟨g, i.toNat * 8 + 1, none⟩ (.int .i64 u)) (some g) := by
  have hy : (x0.set i.toNat y).getD i.toNat z68 = y := by
    rw [List.getD_eq_getElem?_getD, List.getElem?_set_self (by omega)]
    rfl
  obtain ⟨hn, _, _⟩ := Kd.S_reads' h
  rw [List.length_set] at hn
  have hS' := Kd.S_mono (ok' := fun k => ok k ∧ ¬ (fun _ => False) k) h (fun k hk => ⟨hk, id⟩)
  obtain ⟨oki, c, hcl, hM, hcc, hfr, hoki, hH⟩ := Kd.S_elem hS' z68 i h0 (by omega)
  rw [hy] at hM
  obtain ⟨v7, rfl, hR⟩ := k68_openM hM
  have q := Kd.S_seg (okg := fun _ => False) hH h0 (by omega) (seg := [.int .i64 u]) (j := 1) (show 1 + 1 ≤ 8 by omega) (k68_mkM _ _ _ (⟨(y).f0, u, (y).f2, ⟨(y).f3.f0, (y).f3.f1⟩, ⟨(y).f4.f0, (y).f4.f1⟩, (y).f5⟩ : S68) hR) (fun k hk => Or.inl hk) (fun k hk => hk.elim)
  rw [List.set_set] at q
  exact q
theorem ST_put2 {w : World} {base : Nat} {ok : Nat → Prop} {x0 : List S68} {y : S68} {i : Int} {g n cap : Nat} (h : Kd.S k68 68 w base ok (.slice (some ⟨g, 0, none⟩) n cap) (x0.set i.toNat y)) (h0 : 0 ≤ i) (h1 : i < x0.length) (u : Int) :
    Kd.S k68 68 (w.setCell ⟨g, i.toNat * 8 + 2, none⟩ (.int .i64 u)) base ok (.slice (some ⟨g, 0, none⟩) n cap) (x0.set i.toNat (⟨(y).f0, (y).f1, u, ⟨(y).f3.f0, (y).f3.f1⟩, ⟨(y).f4.f0, (y).f4.f1⟩, (y).f5⟩ : S68)) ∧ w.grownBy (w.setCell ⟨g, i.toNat * 8 + 2, none⟩ (.int .i64 u)) (some g) := by
  have hy : (x0.set i.toNat y).getD i.toNat z68 = y := by
    rw [List.getD_eq_getElem?_getD, List.getElem?_set_self (by omega)]
    rfl
  obtain ⟨hn, _, _⟩ := Kd.S_reads' h
  rw [List.length_set] at hn
  have hS' := Kd.S_mono (ok' := fun k => ok k ∧ ¬ (fun _ => False) k) h (fun k hk => ⟨hk, id⟩)
  obtain ⟨oki, c, hcl, hM, hcc, hfr, hoki, hH⟩ := Kd.S_elem hS' z68 i h0 (by omega)
  rw [hy] at hM
  obtain ⟨v7, rfl, hR⟩ := k68_openM hM
  have q := Kd.S_seg (okg := fun _ => False) hH h0 (by omega) (seg := [.int .i64 u]) (j := 2) (show 2 + 1 ≤ 8 by omega) (k68_mkM _ _ _ (⟨(y).f0, (y).f1, u, ⟨(y).f3.f0, (y).f3.f1⟩, ⟨(y).f4.f0, (y).f4.f1⟩, (y).f5⟩ : S68) hR) (fun k hk => Or.inl hk) (fun k hk => hk.elim)
  rw [List.set_set] at q
  exact q
theorem ST_put3 {w : World} {base : Nat} {ok : Nat → Prop} {x0 : List S68} {y : S68} {i : Int} {g n cap : Nat} (h : Kd.S k68 68 w base ok (.slice (some ⟨g, 0, none⟩) n cap) (x0.set i.toNat y)) (h0 : 0 ≤ i) (h1 : i < x0.length) (u : Int) :
    Kd.S k68 68 (w.setCell ⟨g, i.toNat * 8 + 3, none⟩ (.int .i64 u)) base ok (.slice (some ⟨g, 0, none⟩) n cap) (x0.set i.toNat (⟨(y).f0, (y).f1, (y).f2, ⟨u, (y).f3.f1⟩, ⟨(y).f4.f0, (y).f4.f1⟩, (y).f5⟩ : S68)) ∧ w.grownBy (w.setCell ⟨g, i.toNat * 8 + 3, none⟩ (.int .i64 u)) (some g) := by
  have hy : (x0.set i.toNat y).getD i.toNat z68 = y := by
    rw [List.getD_eq_getElem?_getD, List.getElem?_set_self (by omega)]
    rfl
  obtain ⟨hn, _, _⟩ := Kd.S_reads' h
  rw [List.length_set] at hn
  have hS' := Kd.S_mono (ok' := fun k => ok k ∧ ¬ (fun _ => False) k) h (fun k hk => ⟨hk, id⟩)
  obtain ⟨oki, c, hcl, hM, hcc, hfr, hoki, hH⟩ := Kd.S_elem hS' z68 i h0 (by omega)
  rw [hy] at hM
  obtain ⟨v7, rfl, hR⟩ := k68_openM hM
  have q := Kd.S_seg (okg := fun _ => False) hH h0 (by omega) (seg := [.int .i64 u]) (j := 3) (show 3 + 1 ≤ 8 by omega) (k68_mkM _ _ _ (⟨(y).f0, (y).f1, (y).f2, ⟨u, (y).f3.f1⟩, ⟨(y).f4.f0, (y).f4.f1⟩, (y).f5⟩ : S68) hR) (fun k hk => Or.inl hk) (fun k hk => hk.elim)
  rw [List.set_set] at q
  exact q
theorem ST_put4 {w : World} {base : Nat} {ok : Nat → Prop} {x0 : List S68} {y : S68} {i : Int} {g n cap : Nat} (h : Kd.S k68 68 w base ok (.slice (some ⟨g, 0, none⟩) n cap) (x0.set i.toNat y)) (h0 : 0 ≤ i) (h1 : i < x0.length) (u : Int) :
    Kd.S k68 68 (w.setCell ⟨g, i.toNat * 8 + 4, none⟩ (.int .i64 u)) base ok (.slice (some ⟨g, 0, none⟩) n cap) (x0.set i.toNat (⟨(y).f0, (y).f1, (y).f2, ⟨(y).f3.f0, u⟩, ⟨(y).f4.f0, (y).f4.f1⟩, (y).f5⟩ : S68)) ∧ w.grownBy (w.setCell ⟨g, i.toNat * 8 + 4, none⟩ (.int .i64 u)) (some g) := by
  have hy : (x0.set i.toNat y).getD i.toNat z68 = y := by
    rw [List.getD_eq_getElem?_getD, List.getElem?_set_self (by omega)]
    rfl
  obtain ⟨hn, _, _⟩ := Kd.S_reads' h
  rw [List.length_set] at hn
  have hS' := Kd.S_mono (ok' := fun k => ok k ∧ ¬ (fun _ => False) k) h (fun k hk => ⟨hk, id⟩)
  obtain ⟨oki, c, hcl, hM, hcc, hfr, hoki, hH⟩ := Kd.S_elem hS' z68 i h0 (by omega)
  rw [hy] at hM
  obtain ⟨v7, rfl, hR⟩ := k68_openM hM
  have q := Kd.S_seg (okg := fun _ => False) hH h0 (by omega) (seg := [.int .i64 u]) (j := 4) (show 4 + 1 ≤ 8 by omega) (k68_mkM _ _ _ (⟨(y).f0, (y).f1, (y).f2, ⟨(y).f3.f0, u⟩, ⟨(y).f4.f0, (y).f4.f1⟩, (y).f5⟩ : S68) hR) (fun k hk => Or.inl hk) (fun k hk => hk.elim)
  rw [List.set_set] at q
  exact q
theorem ST_put5 {w : World} {base : Nat} {ok : Nat → Prop} {x0 : List S68} {y : S68} {i : Int} {g n cap : Nat} (h : Kd.S k68 68 w base ok (.slice (some ⟨g, 0, none⟩) n cap) (x0.set i.toNat y)) (h0 : 0 ≤ i) (h1 : i < x0.length) (u : Int) :
    Kd.S k68 68 (w.setCell ⟨g, i.toNat * 8 + 5, none⟩ (.int .i64 u)) base ok (.slice (some ⟨g, 0, none⟩) n cap) (x0.set i.toNat (⟨(y).f0, (y).f1, (y).f2, ⟨(y).f3.f0, (y).f3.f1⟩, ⟨u, (y).f4.f1⟩, (y).f5⟩ : S68)) ∧ w.grownBy (w.setCell ⟨g, i.toNat * 8 + 5, none⟩ (.int .i64 u)) (some g) := by
  have hy : (x0.set i.toNat y).getD i.toNat z68 = y := by
    rw [List.getD_eq_getElem?_getD, List.getElem?_set_self (by omega)]
    rfl
  obtain ⟨hn, _, _⟩ := Kd.S_reads' h
  rw [List.length_set] at hn
  have hS' := Kd.S_mono (ok' := fun k => ok k ∧ ¬ (fun _ => False) k) h (fun k hk => ⟨hk, id⟩)
  obtain ⟨oki, c, hcl, hM, hcc, hfr, hoki, hH⟩ := Kd.S_elem hS' z68 i h0 (by omega)
  rw [hy] at hM
  obtain ⟨v7, rfl, hR⟩ := k68_openM hM
  have q := Kd.S_seg (okg := fun _ => False) hH h0 (by omega) (seg := [.int .i64 u]) (j := 5) (show 5 + 1 ≤ 8 by omega) (k68_mkM _ _ _ (⟨(y).f0, (y).f1, (y).f2, ⟨(y).f3.f0, (y).f3.f1⟩, ⟨u, (y).f4.f1⟩, (y).f5⟩ : S68) hR) (fun k hk => Or.inl hk) (fun k hk => hk.elim)
  rw [List.set_set] at q
  exact q
theorem ST_put6 {w : World} {base : Nat} {ok : Nat → Prop} {x0 : List S68} {y : S68} {i : Int} {g n cap : Nat} (h : Kd.S k68 68 w base ok (.slice (some ⟨g, 0, none⟩) n cap) (x0.set i.toNat y)) (h0 : 0 ≤ i) (h1 : i < x0.length) (u : Int) :
    Kd.S k68 68 (w.setCell ⟨g, i.toNat * 8 + 6, none⟩ (.int .i64 u)) base ok (.slice (some ⟨g, 0, none⟩) n cap) (x0.set i.toNat (⟨(y).f0, (y).f1, (y).f2, ⟨(y).f3.f0, (y).f3.f1⟩, ⟨(y).f4.f0, u⟩, (y).f5⟩ : S68)) ∧ w.grownBy (w.setCell ⟨g, i.toNat * 8 + 6, none⟩ (.int .i64 u)) (some g) := by
  have hy : (x0.set i.toNat y).getD i.toNat z68 = y := by
    rw [List.getD_eq_getElem?_getD, List.getElem?_set_self (by omega)]
    rfl
  obtain ⟨hn, _, _⟩ := Kd.S_reads' h
  rw [List.length_set] at hn
  have hS' := Kd.S_mono (ok' := fun k => ok k ∧ ¬ (fun _ => False) k) h (fun k hk => ⟨hk, id⟩)
  obtain ⟨oki, c, hcl, hM, hcc, hfr, hoki, hH⟩ := Kd.S_elem hS' z68 i h0 (by omega)
  rw [hy] at hM
  obtain ⟨v7, rfl, hR⟩ := k68_openM hM
  have q := Kd.S_seg (okg := fun _ => False) hH h0 (by omega) (seg := [.int .i64 u]) (j := 6) (show 6 + 1 ≤ 8 by omega) (k68_mkM _ _ _ (⟨(y).f0, (y).f1, (y).f2, ⟨(y).f3.f0, (y).f3.f1⟩, ⟨(y).f4.f0, u⟩, (y).f5⟩ : S68) hR) (fun k hk => Or.inl hk) (fun k hk => hk.elim)
  rw [List.set_set] at q
  exact q
theorem ST_inner {w : World} {base : Nat} {ok : Nat → Prop} {x0 : List S68} {y : S68} {i : Int} {g n cap : Nat} (h : Kd.S k68 68 w base ok (.slice (some ⟨g, 0, none⟩) n cap) (x0.set i.toNat y)) (h0 : 0 ≤ i) (h1 : i < x0.length) :
    ∃ (v7 : Value) (oki : Nat → Prop), w.cell? ⟨g, i.toNat * 8 + 7, none⟩ = some v7 ∧ Kd.R (Kd.int .i64) 3 w base oki v7 y.f5 ∧ (∀ k, oki k → ok k) ∧
      ∀ w1 l', Kept w w1 oki → Kd.R (Kd.int .i64) 3 w1 base (fun k => oki k ∨ w.heap.size ≤ k) v7 l' → Kd.S k68 68 w1 base ok (.slice (some ⟨g, 0, none⟩) n cap) (x0.set i.toNat (⟨(y).f0, (y).f1, (y).f2, ⟨(y).f3.f0, (y).f3.f1⟩, ⟨(y).f4.f0, (y).f4.f1⟩, l'⟩ : S68)) := by
  have hy : (x0.set i.toNat y).getD i.toNat z68 = y := by
    rw [List.getD_eq_getElem?_getD, List.getElem?_set_self (by omega)]
    rfl
  obtain ⟨hn, _, _⟩ := Kd.S_reads' h
  rw [List.length_set] at hn
  obtain ⟨oki, c, hcl, hM, hcc, hfr, hoki, hH⟩ := Kd.S_elem h z68 i h0 (by omega)
  rw [hy] at hM
  obtain ⟨v7, rfl, hR⟩ := k68_openM hM
  refine ⟨v7, fun k => some k = v7.ownBlock, hcc 7 _ rfl, Kd.R_tight rfl hR, fun k hk => (hoki k (hR.1 k hk.symm)).1, fun w1 l' hK hR1 => ?_⟩
  have hT := Kd.R_tight rfl hR1
  have hH1 := Kd.H_step hH (w1 := w1) (fun k _ hn hlt => hK.2 k hlt (fun hk => hn (hR.1 k hk.symm)))
  have q := Kd.H_back hH1 (okp := fun k => some k = v7.ownBlock) (x' := (⟨(y).f0, (y).f1, (y).f2, ⟨(y).f3.f0, (y).f3.f1⟩, ⟨(y).f4.f0, (y).f4.f1⟩, l'⟩ : S68)) (k68_mkM _ _ _ (⟨(y).f0, (y).f1, (y).f2, ⟨(y).f3.f0, (y).f3.f1⟩, ⟨(y).f4.f0, (y).f4.f1⟩, l'⟩ : S68) hT) (fun k hk => hR.1 k hk.symm)
  rw [List.set_set] at q
  exact q
def laws_markStepS.l0 : Nat → List S68 → Int → Int → Option (Int × List S68)
  | 0, _, _, _ => none
  | k + 1, x0, x1, x5 => if x5 < (x0.length : Int) then (if 0 ≤ x5 then ((laws_markIntS.f k (rd_T68 x0 x5).f5 (wrap64 (wrap64 (wrap64 (wrap64 (wrap64 (wrap64 (wrap64 (x1 + 1) + 1) + 1) + 1) + 1) + 1) + 1))).bind fun t => laws_markStepS.l0 k (x0.set x5.toNat (⟨x1, wrap64 (x1 + 1), wrap64 (wrap64 (x1 + 1) + 1), ⟨wrap64 (wrap64 (wrap64 (x1 + 1) + 1) + 1), wrap64 (wrap64 (wrap64 (wrap64 (x1 + 1) + 1) + 1) + 1)⟩, ⟨wrap64 (wrap64 (wrap64 (wrap64 (wrap64 (x1 + 1) + 1) + 1) + 1) + 1), wrap64 (wrap64 (wrap64 (wrap64 (wrap64 (wrap64 (x1 + 1) + 1) + 1) + 1) + 1) + 1)⟩, t.2⟩ : S68)) t.1 (wrap64 (x5 + 1))) else none) else some (x1, x0)
def laws_markStepS.f (k : Nat) (l0 : List S68) (a1 : Int) : Option (Int × List S68) := laws_markStepS.l0 k l0 a1 0
set_option maxHeartbeats 8000000 in
set_option maxRecDepth 100000 in
theorem laws_markStepS.calls (k : Nat) (P0_ : Nat → Prop) (u9000_ : Value) (l0 : List S68) (a1 : Int) (r1 : Int) (r2 : List S68) (w0 w : World) (hB : Below w0.heap.size w0 w) (ho0 : Kd.S k68 68 w w0.heap.size P0_ u9000_ l0) (h : laws_markStepS.f k l0 a1 = some (r1, r2)) :
  Calls Try.prog 70 #[u9000_, .int .i64 a1] w fun e w' => e = .returned (.int .i64 r1) ∧ Kd.S k68 68 w' w0.heap.size (fun k_ => (P0_ k_ ∨ w.heap.size ≤ k_)) u9000_ r2 ∧ Below w0.heap.size w0 w' ∧ Kept w w' (fun k_ => P0_ k_) := by
  have hu1 := Try.underlying68
  have hu2 := Try.underlying43
  have HS := Aside0.mk ho0
  have HB := Aside0.mk hB
  have HK := Aside0.mk (Kept.refl w P0_)
  have HF := Aside0.mk h
  clear ho0 hB h
  obtain ⟨A0, c0, rfl⟩ := Kd.S_slice HS.out
  obtain ⟨n, hn⟩ : ∃ n, n = l0.length := ⟨_, rfl⟩
  rw [← hn] at HS ⊢
  have HN := Aside0.mk hn
  clear hn
  go_enter Try.func70, Try.ntmps70
  go_wp2
  go_loopg [1, 5] k (fun kq v1 v5 w' => ∃ (x0 : List S68) (x1 x5 : Int), v1 = .int .i64 x1 ∧ v5 = .int .i64 x5 ∧ Aside0 (laws_markStepS.l0 kq x0 x1 x5 = some (r1, r2)) ∧ Aside0 (kq ≤ k) ∧ Aside0 (n = x0.length) ∧ Aside0 (Kd.S k68 68 w' w0.heap.size P0_ (.slice A0 n c0) x0) ∧ Aside0 (Kept w w' P0_) ∧ Aside0 (Below w0.heap.size w0 w'))
  case atStart => exact ⟨l0, a1, 0, rfl, rfl, HF, ⟨Nat.le_refl _⟩, HN, HS, HK, HB⟩
  case round =>
    clear HS HK HB HF HN
    obtain ⟨x0, x1, x5, rfl, rfl, HA, HQ, HN, HS, HK, HB⟩ := hrel
    cases gk with
    | zero => exact absurd HA.out (by simp [laws_markStepS.l0])
    | succ k1 =>
      have H := HA.out
      clear HA
      simp only [laws_markStepS.l0] at H
      rw [← HN.out] at H
      by_cases c3 : x5 < (n : Int)
      · rw [if_pos c3] at H
        have c3b0 : decide (x5 < (n : Int)) = true := decide_eq_true c3
        by_cases c4 : 0 ≤ x5
        · rw [if_pos c4] at H
          have c4b0 : decide (0 ≤ x5) = true := decide_eq_true c4
          obtain ⟨⟨t1, t2⟩, hf, H⟩ := Option.bind_eq_some_iff.mp H
          have HF := Aside0.mk hf
          clear hf
          have HA := Aside0.mk H
          clear H
          obtain ⟨g, cap, e_, hg_, _⟩ := Kd.S_form HS.out (by have := HN.out; omega)
          have e1_ : A0 = some ⟨g, 0, none⟩ := by injection e_
          subst e1_
          have GB := Aside0.mk hg_
          have GO : Aside0 (P0_ g) := ⟨(Kd.S_R HS.out).1 g rfl⟩
          clear e_ hg_
          have P0 := Aside0.mk c4
          have P1 : Aside0 (x5 < (x0.length : Int)) := ⟨by have := HN.out; omega⟩
          have q0 : (0 ≤ x5) = True := eq_true c4
          have q1 : (x5 < (n : Int)) = True := eq_true c3
          clear c3 c4
          have n0_ := Aside0.mk (show Kd.S k68 68 wr w0.heap.size P0_ (.slice (some ⟨g, 0, none⟩) n c0) (x0.set x5.toNat (rd_T68 x0 x5)) from (by rw [ST_self x0 x5 P0.out P1.out]; exact HS.out))
          clear HS
          have HS := n0_
          clear n0_
          obtain ⟨⟨hx0, hx1, hx2, hx3, hx4, hx5, hx6⟩, hf⟩ := ST_at HS.out P0.out P1.out
          have hf0 := hf 0
          have hf1 := hf 1
          have hf2 := hf 2
          have hf3 := hf 3
          have hf4 := hf 4
          have hf5 := hf 5
          have hf6 := hf 6
          try simp only [Nat.add_zero] at hf0
          clear hf
          go_wp2_with (first | ((with_reducible refine gate_store (t := 3) (p := 16) rfl ?_); refine store_event (t := 3) (p := 16) (v := ?vo_w1) (w1 := (wr.setCell ⟨g, x5.toNat * 8, none⟩ (.int .i64 (x1)))) ?hg ?ho ?hn ?hr ?_; (case ho => rfl); (case hg => rfl); (case hn => rfl); (case hr => first | (go_simp; done) | (go_simp; rfl)); intro w1 hw; have hp_ := ST_put0 HS.out P0.out P1.out (x1); have hg : wr.grownBy w1 (some g) := (by rw [hw]; exact hp_.2); have n0_ := Aside0.mk (show Kd.S k68 68 w1 w0.heap.size P0_ (.slice (some ⟨g, 0, none⟩) n c0) (x0.set x5.toNat (⟨x1, (rd_T68 x0 x5).f1, (rd_T68 x0 x5).f2, ⟨(rd_T68 x0 x5).f3.f0, (rd_T68 x0 x5).f3.f1⟩, ⟨(rd_T68 x0 x5).f4.f0, (rd_T68 x0 x5).f4.f1⟩, (rd_T68 x0 x5).f5⟩ : S68)) from (by rw [hw]; exact hp_.1)); have n1_ := Aside0.mk ((by rw [hw]; exact below_set (HB.out) GB.out : Below w0.heap.size w0 w1)); have n2_ := Aside0.mk (Kept.of_grown (S := P0_) hg HK.out (fun k_ e_ => .inl (by cases e_; exact GO.out))); clear hp_ HS HB HK hx0 hx1 hx2 hx3 hx4 hx5 hx6 hf0 hf1 hf2 hf3 hf4 hf5 hf6; have HS := n0_; have HB := n1_; have HK := n2_; clear n0_ n1_ n2_ hg hw; obtain ⟨⟨hx0, hx1, hx2, hx3, hx4, hx5, hx6⟩, hf⟩ := ST_at HS.out P0.out P1.out; have hf0 := hf 0; have hf1 := hf 1; have hf2 := hf 2; have hf3 := hf 3; have hf4 := hf 4; have hf5 := hf 5; have hf6 := hf 6; try simp only [Nat.add_zero] at hf0; clear hf) | ((with_reducible refine gate_store (t := 3) (p := 23) rfl ?_); refine store_event (t := 3) (p := 23) (v := ?vo_w2) (w1 := (w1.setCell ⟨g, x5.toNat * 8 + 1, none⟩ (.int .i64 (wrap64 (x1 + 1))))) ?hg ?ho ?hn ?hr ?_; (case ho => rfl); (case hg => rfl); (case hn => rfl); (case hr => first | (go_simp; done) | (go_simp; rfl)); intro w2 hw; have hp_ := ST_put1 HS.out P0.out P1.out (wrap64 (x1 + 1)); have hg : w1.grownBy w2 (some g) := (by rw [hw]; exact hp_.2); have n0_ := Aside0.mk (show Kd.S k68 68 w2 w0.heap.size P0_ (.slice (some ⟨g, 0, none⟩) n c0) (x0.set x5.toNat (⟨x1, wrap64 (x1 + 1), (rd_T68 x0 x5).f2, ⟨(rd_T68 x0 x5).f3.f0, (rd_T68 x0 x5).f3.f1⟩, ⟨(rd_T68 x0 x5).f4.f0, (rd_T68 x0 x5).f4.f1⟩, (rd_T68 x0 x5).f5⟩ : S68)) from (by rw [hw]; exact hp_.1)); have n1_ := Aside0.mk ((by rw [hw]; exact below_set (HB.out) GB.out : Below w0.heap.size w0 w2)); have n2_ := Aside0.mk (Kept.of_grown (S := P0_) hg HK.out (fun k_ e_ => .inl (by cases e_; exact GO.out))); clear hp_ HS HB HK hx0 hx1 hx2 hx3 hx4 hx5 hx6 hf0 hf1 hf2 hf3 hf4 hf5 hf6; have HS := n0_; have HB := n1_; have HK := n2_; clear n0_ n1_ n2_ hg hw; obtain ⟨⟨hx0, hx1, hx2, hx3, hx4, hx5, hx6⟩, hf⟩ := ST_at HS.out P0.out P1.out; have hf0 := hf 0; have hf1 := hf 1; have hf2 := hf 2; have hf3 := hf 3; have hf4 := hf 4; have hf5 := hf 5; have hf6 := hf 6; try simp only [Nat.add_zero] at hf0; clear hf) | ((with_reducible refine gate_store (t := 3) (p := 30) rfl ?_); refine store_event (t := 3) (p := 30) (v := ?vo_w3) (w1 := (w2.setCell ⟨g, x5.toNat * 8 + 2, none⟩ (.int .i64 (wrap64 (wrap64 (x1 + 1) + 1))))) ?hg ?ho ?hn ?hr ?_; (case ho => rfl); (case hg => rfl); (case hn => rfl); (case hr => first | (go_simp; done) | (go_simp; rfl)); intro w3 hw; have hp_ := ST_put2 HS.out P0.out P1.out (wrap64 (wrap64 (x1 + 1) + 1)); have hg : w2.grownBy w3 (some g) := (by rw [hw]; exact hp_.2); have n0_ := Aside0.mk (show Kd.S k68 68 w3 w0.heap.size P0_ (.slice (some ⟨g, 0, none⟩) n c0) (x0.set x5.toNat (⟨x1, wrap64 (x1 + 1), wrap64 (wrap64 (x1 + 1) + 1), ⟨(rd_T68 x0 x5).f3.f0, (rd_T68 x0 x5).f3.f1⟩, ⟨(rd_T68 x0 x5).f4.f0, (rd_T68 x0 x5).f4.f1⟩, (rd_T68 x0 x5).f5⟩ : S68)) from (by rw [hw]; exact hp_.1)); have n1_ := Aside0.mk ((by rw [hw]; exact below_set (HB.out) GB.out : Below w0.heap.size w0 w3)); have n2_ := Aside0.mk (Kept.of_grown (S := P0_) hg HK.out (fun k_ e_ => .inl (by cases e_; exact GO.out))); clear hp_ HS HB HK hx0 hx1 hx2 hx3 hx4 hx5 hx6 hf0 hf1 hf2 hf3 hf4 hf5 hf6; have HS := n0_; have HB := n1_; have HK := n2_; clear n0_ n1_ n2_ hg hw; obtain ⟨⟨hx0, hx1, hx2, hx3, hx4, hx5, hx6⟩, hf⟩ := ST_at HS.out P0.out P1.out; have hf0 := hf 0; have hf1 := hf 1; have hf2 := hf 2; have hf3 := hf 3; have hf4 := hf 4; have hf5 := hf 5; have hf6 := hf 6; try simp only [Nat.add_zero] at hf0; clear hf) | ((with_reducible refine gate_store (t := 3) (p := 38) rfl ?_); refine store_event (t := 3) (p := 38) (v := ?vo_w4) (w1 := (w3.setCell ⟨g, x5.toNat * 8 + 3, none⟩ (.int .i64 (wrap64 (wrap64 (wrap64 (x1 + 1) + 1) + 1))))) ?hg ?ho ?hn ?hr ?_; (case ho => rfl); (case hg => rfl); (case hn => rfl); (case hr => first | (go_simp; done) | (go_simp; rfl)); intro w4 hw; have hp_ := ST_put3 HS.out P0.out P1.out (wrap64 (wrap64 (wrap64 (x1 + 1) + 1) + 1)); have hg : w3.grownBy w4 (some g) := (by rw [hw]; exact hp_.2); have n0_ := Aside0.mk (show Kd.S k68 68 w4 w0.heap.size P0_ (.slice (some ⟨g, 0, none⟩) n c0) (x0.set x5.toNat (⟨x1, wrap64 (x1 + 1), wrap64 (wrap64 (x1 + 1) + 1), ⟨wrap64 (wrap64 (wrap64 (x1 + 1) + 1) + 1), (rd_T68 x0 x5).f3.f1⟩, ⟨(rd_T68 x0 x5).f4.f0, (rd_T68 x0 x5).f4.f1⟩, (rd_T68 x0 x5).f5⟩ : S68)) from (by rw [hw]; exact hp_.1)); have n1_ := Aside0.mk ((by rw [hw]; exact below_set (HB.out) GB.out : Below w0.heap.size w0 w4)); have n2_ := Aside0.mk (Kept.of_grown (S := P0_) hg HK.out (fun k_ e_ => .inl (by cases e_; exact GO.out))); clear hp_ HS HB HK hx0 hx1 hx2 hx3 hx4 hx5 hx6 hf0 hf1 hf2 hf3 hf4 hf5 hf6; have HS := n0_; have HB := n1_; have HK := n2_; clear n0_ n1_ n2_ hg hw; obtain ⟨⟨hx0, hx1, hx2, hx3, hx4, hx5, hx6⟩, hf⟩ := ST_at HS.out P0.out P1.out; have hf0 := hf 0; have hf1 := hf 1; have hf2 := hf 2; have hf3 := hf 3; have hf4 := hf 4; have hf5 := hf 5; have hf6 := hf 6; try simp only [Nat.add_zero] at hf0; clear hf) | ((with_reducible refine gate_store (t := 3) (p := 46) rfl ?_); refine store_event (t := 3) (p := 46) (v := ?vo_w5) (w1 := (w4.setCell ⟨g, x5.toNat * 8 + 4, none⟩ (.int .i64 (wrap64 (wrap64 (wrap64 (wrap64 (x1 + 1) + 1) + 1) + 1))))) ?hg ?ho ?hn ?hr ?_; (case ho => rfl); (case hg => rfl); (case hn => rfl); (case hr => first | (go_simp; done) | (go_simp; rfl)); intro w5 hw; have hp_ := ST_put4 HS.out P0.out P1.out (wrap64 (wrap64 (wrap64 (wrap64 (x1 + 1) + 1) + 1) + 1)); have hg : w4.grownBy w5 (some g) := (by rw [hw]; exact hp_.2); have n0_ := Aside0.mk (show Kd.S k68 68 w5 w0.heap.size P0_ (.slice (some ⟨g, 0, none⟩) n c0) (x0.set x5.toNat (⟨x1, wrap64 (x1 + 1), wrap64 (wrap64 (x1 + 1) + 1), ⟨wrap64 (wrap64 (wrap64 (x1 + 1) + 1) + 1), wrap64 (wrap64 (wrap64 (wrap64 (x1 + 1) + 1) + 1) + 1)⟩, ⟨(rd_T68 x0 x5).f4.f0, (rd_T68 x0 x5).f4.f1⟩, (rd_T68 x0 x5).f5⟩ : S68)) from (by rw [hw]; exact hp_.1)); have n1_ := Aside0.mk ((by rw [hw]; exact below_set (HB.out) GB.out : Below w0.heap.size w0 w5)); have n2_ := Aside0.mk (Kept.of_grown (S := P0_) hg HK.out (fun k_ e_ => .inl (by cases e_; exact GO.out))); clear hp_ HS HB HK hx0 hx1 hx2 hx3 hx4 hx5 hx6 hf0 hf1 hf2 hf3 hf4 hf5 hf6; have HS := n0_; have HB := n1_; have HK := n2_; clear n0_ n1_ n2_ hg hw; obtain ⟨⟨hx0, hx1, hx2, hx3, hx4, hx5, hx6⟩, hf⟩ := ST_at HS.out P0.out P1.out; have hf0 := hf 0; have hf1 := hf 1; have hf2 := hf 2; have hf3 := hf 3; have hf4 := hf 4; have hf5 := hf 5; have hf6 := hf 6; try simp only [Nat.add_zero] at hf0; clear hf) | ((with_reducible refine gate_store (t := 3) (p := 54) rfl ?_); refine store_event (t := 3) (p := 54) (v := ?vo_w6) (w1 := (w5.setCell ⟨g, x5.toNat * 8 + 5, none⟩ (.int .i64 (wrap64 (wrap64 (wrap64 (wrap64 (wrap64 (x1 + 1) + 1) + 1) + 1) + 1))))) ?hg ?ho ?hn ?hr ?_; (case ho => rfl); (case hg => rfl); (case hn => rfl); (case hr => first | (go_simp; done) | (go_simp; rfl)); intro w6 hw; have hp_ := ST_put5 HS.out P0.out P1.out (wrap64 (wrap64 (wrap64 (wrap64 (wrap64 (x1 + 1) + 1) + 1) + 1) + 1)); have hg : w5.grownBy w6 (some g) := (by rw [hw]; exact hp_.2); have n0_ := Aside0.mk (show Kd.S k68 68 w6 w0.heap.size P0_ (.slice (some ⟨g, 0, none⟩) n c0) (x0.set x5.toNat (⟨x1, wrap64 (x1 + 1), wrap64 (wrap64 (x1 + 1) + 1), ⟨wrap64 (wrap64 (wrap64 (x1 + 1) + 1) + 1), wrap64 (wrap64 (wrap64 (wrap64 (x1 + 1) + 1) + 1) + 1)⟩, ⟨wrap64 (wrap64 (wrap64 (wrap64 (wrap64 (x1 + 1) + 1) + 1) + 1) + 1), (rd_T68 x0 x5).f4.f1⟩, (rd_T68 x0 x5).f5⟩ : S68)) from (by rw [hw]; exact hp_.1)); have n1_ := Aside0.mk ((by rw [hw]; exact below_set (HB.out) GB.out : Below w0.heap.size w0 w6)); have n2_ := Aside0.mk (Kept.of_grown (S := P0_) hg HK.out (fun k_ e_ => .inl (by cases e_; exact GO.out))); clear hp_ HS HB HK hx0 hx1 hx2 hx3 hx4 hx5 hx6 hf0 hf1 hf2 hf3 hf4 hf5 hf6; have HS := n0_; have HB := n1_; have HK := n2_; clear n0_ n1_ n2_ hg hw; obtain ⟨⟨hx0, hx1, hx2, hx3, hx4, hx5, hx6⟩, hf⟩ := ST_at HS.out P0.out P1.out; have hf0 := hf 0; have hf1 := hf 1; have hf2 := hf 2; have hf3 := hf 3; have hf4 := hf 4; have hf5 := hf 5; have hf6 := hf 6; try simp only [Nat.add_zero] at hf0; clear hf) | ((with_reducible refine gate_store (t := 3) (p := 62) rfl ?_); refine store_event (t := 3) (p := 62) (v := ?vo_w7) (w1 := (w6.setCell ⟨g, x5.toNat * 8 + 6, none⟩ (.int .i64 (wrap64 (wrap64 (wrap64 (wrap64 (wrap64 (wrap64 (x1 + 1) + 1) + 1) + 1) + 1) + 1))))) ?hg ?ho ?hn ?hr ?_; (case ho => rfl); (case hg => rfl); (case hn => rfl); (case hr => first | (go_simp; done) | (go_simp; rfl)); intro w7 hw; have hp_ := ST_put6 HS.out P0.out P1.out (wrap64 (wrap64 (wrap64 (wrap64 (wrap64 (wrap64 (x1 + 1) + 1) + 1) + 1) + 1) + 1)); have hg : w6.grownBy w7 (some g) := (by rw [hw]; exact hp_.2); have n0_ := Aside0.mk (show Kd.S k68 68 w7 w0.heap.size P0_ (.slice (some ⟨g, 0, none⟩) n c0) (x0.set x5.toNat (⟨x1, wrap64 (x1 + 1), wrap64 (wrap64 (x1 + 1) + 1), ⟨wrap64 (wrap64 (wrap64 (x1 + 1) + 1) + 1), wrap64 (wrap64 (wrap64 (wrap64 (x1 + 1) + 1) + 1) + 1)⟩, ⟨wrap64 (wrap64 (wrap64 (wrap64 (wrap64 (x1 + 1) + 1) + 1) + 1) + 1), wrap64 (wrap64 (wrap64 (wrap64 (wrap64 (wrap64 (x1 + 1) + 1) + 1) + 1) + 1) + 1)⟩, (rd_T68 x0 x5).f5⟩ : S68)) from (by rw [hw]; exact hp_.1)); have n1_ := Aside0.mk ((by rw [hw]; exact below_set (HB.out) GB.out : Below w0.heap.size w0 w7)); have n2_ := Aside0.mk (Kept.of_grown (S := P0_) hg HK.out (fun k_ e_ => .inl (by cases e_; exact GO.out))); clear hp_ HS HB HK hx0 hx1 hx2 hx3 hx4 hx5 hx6 hf0 hf1 hf2 hf3 hf4 hf5 hf6; have HS := n0_; have HB := n1_; have HK := n2_; clear n0_ n1_ n2_ hg hw; obtain ⟨v7, oki, hx7, hr7, hok7, hback⟩ := ST_inner HS.out P0.out P1.out; have HR7 := Aside0.mk hr7; have HX := Aside0.mk hback; have HO7 := Aside0.mk hok7; clear hr7 hback hok7) | (go_at_call 49; (with_reducible refine (laws_markIntS.calls k1 oki v7 (rd_T68 x0 x5).f5 (wrap64 (wrap64 (wrap64 (wrap64 (wrap64 (wrap64 (wrap64 (x1 + 1) + 1) + 1) + 1) + 1) + 1) + 1)) t1 t2 w0 _ ?side1 ?side2 HF.out).mono ?_); (case side1 => exact HB.out); (case side2 => exact HR7.out); rintro e w8 ⟨rfl, hr_, hb_, hk_⟩; have n0_ := Aside0.mk (HX.out w8 t2 hk_ hr_); have n1_ := Aside0.mk hb_; have n2_ := Aside0.mk (Kept.then_ HK.out hk_ (fun k_ h_ => .inl (HO7.out k_ h_))); clear HS HB HK hr_ hb_ hk_; have HS := n0_; have HB := n1_; have HK := n2_; clear n0_ n1_ n2_))
          repeat (go_quiet (first | ((with_reducible refine gate_store (t := 3) (p := 16) rfl ?_); refine store_event (t := 3) (p := 16) (v := ?vo_w1) (w1 := (wr.setCell ⟨g, x5.toNat * 8, none⟩ (.int .i64 (x1)))) ?hg ?ho ?hn ?hr ?_; (case ho => rfl); (case hg => rfl); (case hn => rfl); (case hr => first | (go_simp; done) | (go_simp; rfl)); intro w1 hw; have hp_ := ST_put0 HS.out P0.out P1.out (x1); have hg : wr.grownBy w1 (some g) := (by rw [hw]; exact hp_.2); have n0_ := Aside0.mk (show Kd.S k68 68 w1 w0.heap.size P0_ (.slice (some ⟨g, 0, none⟩) n c0) (x0.set x5.toNat (⟨x1, (rd_T68 x0 x5).f1, (rd_T68 x0 x5).f2, ⟨(rd_T68 x0 x5).f3.f0, (rd_T68 x0 x5).f3.f1⟩, ⟨(rd_T68 x0 x5).f4.f0, (rd_T68 x0 x5).f4.f1⟩, (rd_T68 x0 x5).f5⟩ : S68)) from (by rw [hw]; exact hp_.1)); have n1_ := Aside0.mk ((by rw [hw]; exact below_set (HB.out) GB.out : Below w0.heap.size w0 w1)); have n2_ := Aside0.mk (Kept.of_grown (S := P0_) hg HK.out (fun k_ e_ => .inl (by cases e_; exact GO.out))); clear hp_ HS HB HK hx0 hx1 hx2 hx3 hx4 hx5 hx6 hf0 hf1 hf2 hf3 hf4 hf5 hf6; have HS := n0_; have HB := n1_; have HK := n2_; clear n0_ n1_ n2_ hg hw; obtain ⟨⟨hx0, hx1, hx2, hx3, hx4, hx5, hx6⟩, hf⟩ := ST_at HS.out P0.out P1.out; have hf0 := hf 0; have hf1 := hf 1; have hf2 := hf 2; have hf3 := hf 3; have hf4 := hf 4; have hf5 := hf 5; have hf6 := hf 6; try simp only [Nat.add_zero] at hf0; clear hf) | ((with_reducible refine gate_store (t := 3) (p := 23) rfl ?_); refine store_event (t := 3) (p := 23) (v := ?vo_w2) (w1 := (w1.setCell ⟨g, x5.toNat * 8 + 1, none⟩ (.int .i64 (wrap64 (x1 + 1))))) ?hg ?ho ?hn ?hr ?_; (case ho => rfl); (case hg => rfl); (case hn => rfl); (case hr => first | (go_simp; done) | (go_simp; rfl)); intro w2 hw; have hp_ := ST_put1 HS.out P0.out P1.out (wrap64 (x1 + 1)); have hg : w1.grownBy w2 (some g) := (by rw [hw]; exact hp_.2); have n0_ := Aside0.mk (show Kd.S k68 68 w2 w0.heap.size P0_ (.slice (some ⟨g, 0, none⟩) n c0) (x0.set x5.toNat (⟨x1, wrap64 (x1 + 1), (rd_T68 x0 x5).f2, ⟨(rd_T68 x0 x5).f3.f0, (rd_T68 x0 x5).f3.f1⟩, ⟨(rd_T68 x0 x5).f4.f0, (rd_T68 x0 x5).f4.f1⟩, (rd_T68 x0 x5).f5⟩ : S68)) from (by rw [hw]; exact hp_.1)); have n1_ := Aside0.mk ((by rw [hw]; exact below_set (HB.out) GB.out : Below w0.heap.size w0 w2)); have n2_ := Aside0.mk (Kept.of_grown (S := P0_) hg HK.out (fun k_ e_ => .inl (by cases e_; exact GO.out))); clear hp_ HS HB HK hx0 hx1 hx2 hx3 hx4 hx5 hx6 hf0 hf1 hf2 hf3 hf4 hf5 hf6; have HS := n0_; have HB := n1_; have HK := n2_; clear n0_ n1_ n2_ hg hw; obtain ⟨⟨hx0, hx1, hx2, hx3, hx4, hx5, hx6⟩, hf⟩ := ST_at HS.out P0.out P1.out; have hf0 := hf 0; have hf1 := hf 1; have hf2 := hf 2; have hf3 := hf 3; have hf4 := hf 4; have hf5 := hf 5; have hf6 := hf 6; try simp only [Nat.add_zero] at hf0; clear hf) | ((with_reducible refine gate_store (t := 3) (p := 30) rfl ?_); refine store_event (t := 3) (p := 30) (v := ?vo_w3) (w1 := (w2.setCell ⟨g, x5.toNat * 8 + 2, none⟩ (.int .i64 (wrap64 (wrap64 (x1 + 1) + 1))))) ?hg ?ho ?hn ?hr ?_; (case ho => rfl); (case hg => rfl); (case hn => rfl); (case hr => first | (go_simp; done) | (go_simp; rfl)); intro w3 hw; have hp_ := ST_put2 HS.out P0.out P1.out (wrap64 (wrap64 (x1 + 1) + 1)); have hg : w2.grownBy w3 (some g) := (by rw [hw]; exact hp_.2); have n0_ := Aside0.mk (show Kd.S k68 68 w3 w0.heap.size P0_ (.slice (some ⟨g, 0, none⟩) n c0) (x0.set x5.toNat (⟨x1, wrap64 (x1 + 1), wrap64 (wrap64 (x1 + 1) + 1), ⟨(rd_T68 x0 x5).f3.f0, (rd_T68 x0 x5).f3.f1⟩, ⟨(rd_T68 x0 x5).f4.f0, (rd_T68 x0 x5).f4.f1⟩, (rd_T68 x0 x5).f5⟩ : S68)) from (by rw [hw]; exact hp_.1)); have n1_ := Aside0.mk ((by rw [hw]; exact below_set (HB.out) GB.out : Below w0.heap.size w0 w3)); have n2_ := Aside0.mk (Kept.of_grown (S := P0_) hg HK.out (fun k_ e_ => .inl (by cases e_; exact GO.out))); clear hp_ HS HB HK hx0 hx1 hx2 hx3 hx4 hx5 hx6 hf0 hf1 hf2 hf3 hf4 hf5 hf6; have HS := n0_; have HB := n1_; have HK := n2_; clear n0_ n1_ n2_ hg hw; obtain ⟨⟨hx0, hx1, hx2, hx3, hx4, hx5, hx6⟩, hf⟩ := ST_at HS.out P0.out P1.out; have hf0 := hf 0; have hf1 := hf 1; have hf2 := hf 2; have hf3 := hf 3; have hf4 := hf 4; have hf5 := hf 5; have hf6 := hf 6; try simp only [Nat.add_zero] at hf0; clear hf) | ((with_reducible refine gate_store (t := 3) (p := 38) rfl ?_); refine store_event (t := 3) (p := 38) (v := ?vo_w4) (w1 := (w3.setCell ⟨g, x5.toNat * 8 + 3, none⟩ (.int .i64 (wrap64 (wrap64 (wrap64 (x1 + 1) + 1) + 1))))) ?hg ?ho ?hn ?hr ?_; (case ho => rfl); (case hg => rfl); (case hn => rfl); (case hr => first | (go_simp; done) | (go_simp; rfl)); intro w4 hw; have hp_ := ST_put3 HS.out P0.out P1.out (wrap64 (wrap64 (wrap64 (x1 + 1) + 1) + 1)); have hg : w3.grownBy w4 (some g) := (by rw [hw]; exact hp_.2); have n0_ := Aside0.mk (show Kd.S k68 68 w4 w0.heap.size P0_ (.slice (some ⟨g, 0, none⟩) n c0) (x0.set x5.toNat (⟨x1, wrap64 (x1 + 1), wrap64 (wrap64 (x1 + 1) + 1), ⟨wrap64 (wrap64 (wrap64 (x1 + 1) + 1) + 1), (rd_T68 x0 x5).f3.f1⟩, ⟨(rd_T68 x0 x5).f4.f0, (rd_T68 x0 x5).f4.f1⟩, (rd_T68 x0 x5).f5⟩ : S68)) from (by rw [hw]; exact hp_.1)); have n1_ := Aside0.mk ((by rw [hw]; exact below_set (HB.out) GB.out : Below w0.heap.size w0 w4)); have n2_ := Aside0.mk (Kept.of_grown (S := P0_) hg HK.out (fun k_ e_ => .inl (by cases e_; exact GO.out))); clear hp_ HS HB HK hx0 hx1 hx2 hx3 hx4 hx5 hx6 hf0 hf1 hf2 hf3 hf4 hf5 hf6; have HS := n0_; have HB := n1_; have HK := n2_; clear n0_ n1_ n2_ hg hw; obtain ⟨⟨hx0, hx1, hx2, hx3, hx4, hx5, hx6⟩, hf⟩ := ST_at HS.out P0.out P1.out; have hf0 := hf 0; have hf1 := hf 1; have hf2 := hf 2; have hf3 := hf 3; have hf4 := hf 4; have hf5 := hf 5; have hf6 := hf 6; try simp only [Nat.add_zero] at hf0; clear hf) | ((with_reducible refine gate_store (t := 3) (p := 46) rfl ?_); refine store_event (t := 3) (p := 46) (v := ?vo_w5) (w1 := (w4.setCell ⟨g, x5.toNat * 8 + 4, none⟩ (.int .i64 (wrap64 (wrap64 (wrap64 (wrap64 (x1 + 1) + 1) + 1) + 1))))) ?hg ?ho ?hn ?hr ?_; (case ho => rfl); (case hg => rfl); (case hn => rfl); (case hr => first | (go_simp; done) | (go_simp; rfl)); intro w5 hw; have hp_ := ST_put4 HS.out P0.out P1.out (wrap64 (wrap64 (wrap64 (wrap64 (x1 + 1) + 1) + 1) + 1)); have hg : w4.grownBy w5 (some g) := (by rw [hw]; exact hp_.2); have n0_ := Aside0.mk (show Kd.S k68 68 w5 w0.heap.size P0_ (.slice (some ⟨g, 0, none⟩) n c0) (x0.set x5.toNat (⟨x1, wrap64 (x1 + 1), wrap64 (wrap64 (x1 + 1) + 1), ⟨wrap64 (wrap64 (wrap64 (x1 + 1) + 1) + 1), wrap64 (wrap64 (wrap64 (wrap64 (x1 + 1) + 1) + 1) + 1)⟩, ⟨(rd_T68 x0 x5).f4.f0, (rd_T68 x0 x5).f4.f1⟩, (rd_T68 x0 x5).f5⟩ : S68)) from (by rw [hw]; exact hp_.1)); have n1_ := Aside0.mk ((by rw [hw]; exact below_set (HB.out) GB.out : Below w0.heap.size w0 w5)); have n2_ := Aside0.mk (Kept.of_grown (S := P0_) hg HK.out (fun k_ e_ => .inl (by cases e_; exact GO.out))); clear hp_ HS HB HK hx0 hx1 hx2 hx3 hx4 hx5 hx6 hf0 hf1 hf2 hf3 hf4 hf5 hf6; have HS := n0_; have HB := n1_; have HK := n2_; clear n0_ n1_ n2_ hg hw; obtain ⟨⟨hx0, hx1, hx2, hx3, hx4, hx5, hx6⟩, hf⟩ := ST_at HS.out P0.out P1.out; have hf0 := hf 0; have hf1 := hf 1; have hf2 := hf 2; have hf3 := hf 3; have hf4 := hf 4; have hf5 := hf 5; have hf6 := hf 6; try simp only [Nat.add_zero] at hf0; clear hf) | ((with_reducible refine gate_store (t := 3) (p := 54) rfl ?_); refine store_event (t := 3) (p := 54) (v := ?vo_w6) (w1 := (w5.setCell ⟨g, x5.toNat * 8 + 5, none⟩ (.int .i64 (wrap64 (wrap64 (wrap64 (wrap64 (wrap64 (x1 + 1) + 1) + 1) + 1) + 1))))) ?hg ?ho ?hn ?hr ?_; (case ho => rfl); (case hg => rfl); (case hn => rfl); (case hr => first | (go_simp; done) | (go_simp; rfl)); intro w6 hw; have hp_ := ST_put5 HS.out P0.out P1.out (wrap64 (wrap64 (wrap64 (wrap64 (wrap64 (x1 + 1) + 1) + 1) + 1) + 1)); have hg : w5.grownBy w6 (some g) := (by rw [hw]; exact hp_.2); have n0_ := Aside0.mk (show Kd.S k68 68 w6 w0.heap.size P0_ (.slice (some ⟨g, 0, none⟩) n c0) (x0.set x5.toNat (⟨x1, wrap64 (x1 + 1), wrap64 (wrap64 (x1 + 1) + 1), ⟨wrap64 (wrap64 (wrap64 (x1 + 1) + 1) + 1), wrap64 (wrap64 (wrap64 (wrap64 (x1 + 1) + 1) + 1) + 1)⟩, ⟨wrap64 (wrap64 (wrap64 (wrap64 (wrap64 (x1 + 1) + 1) + 1) + 1) + 1), (rd_T68 x0 x5).f4.f1⟩, (rd_T68 x0 x5).f5⟩ : S68)) from (by rw [hw]; exact hp_.1)); have n1_ := Aside0.mk ((by rw [hw]; exact below_set (HB.out) GB.out : Below w0.heap.size w0 w6)); have n2_ := Aside0.mk (Kept.of_grown (S := P0_) hg HK.out (fun k_ e_ => .inl (by cases e_; exact GO.out))); clear hp_ HS HB HK hx0 hx1 hx2 hx3 hx4 hx5 hx6 hf0 hf1 hf2 hf3 hf4 hf5 hf6; have HS := n0_; have HB := n1_; have HK := n2_; clear n0_ n1_ n2_ hg hw; obtain ⟨⟨hx0, hx1, hx2, hx3, hx4, hx5, hx6⟩, hf⟩ := ST_at HS.out P0.out P1.out; have hf0 := hf 0; have hf1 := hf 1; have hf2 := hf 2; have hf3 := hf 3; have hf4 := hf 4; have hf5 := hf 5; have hf6 := hf 6; try simp only [Nat.add_zero] at hf0; clear hf) | ((with_reducible refine gate_store (t := 3) (p := 62) rfl ?_); refine store_event (t := 3) (p := 62) (v := ?vo_w7) (w1 := (w6.setCell ⟨g, x5.toNat * 8 + 6, none⟩ (.int .i64 (wrap64 (wrap64 (wrap64 (wrap64 (wrap64 (wrap64 (x1 + 1) + 1) + 1) + 1) + 1) + 1))))) ?hg ?ho ?hn ?hr ?_; (case ho => rfl); (case hg => rfl); (case hn => rfl); (case hr => first | (go_simp; done) | (go_simp; rfl)); intro w7 hw; have hp_ := ST_put6 HS.out P0.out P1.out (wrap64 (wrap64 (wrap64 (wrap64 (wrap64 (wrap64 (x1 + 1) + 1) + 1) + 1) + 1) + 1)); have hg : w6.grownBy w7 (some g) := (by rw [hw]; exact hp_.2); have n0_ := Aside0.mk (show Kd.S k68 68 w7 w0.heap.size P0_ (.slice (some ⟨g, 0, none⟩) n c0) (x0.set x5.toNat (⟨x1, wrap64 (x1 + 1), wrap64 (wrap64 (x1 + 1) + 1), ⟨wrap64 (wrap64 (wrap64 (x1 + 1) + 1) + 1), wrap64 (wrap64 (wrap64 (wrap64 (x1 + 1) + 1) + 1) + 1)⟩, ⟨wrap64 (wrap64 (wrap64 (wrap64 (wrap64 (x1 + 1) + 1) + 1) + 1) + 1), wrap64 (wrap64 (wrap64 (wrap64 (wrap64 (wrap64 (x1 + 1) + 1) + 1) + 1) + 1) + 1)⟩, (rd_T68 x0 x5).f5⟩ : S68)) from (by rw [hw]; exact hp_.1)); have n1_ := Aside0.mk ((by rw [hw]; exact below_set (HB.out) GB.out : Below w0.heap.size w0 w7)); have n2_ := Aside0.mk (Kept.of_grown (S := P0_) hg HK.out (fun k_ e_ => .inl (by cases e_; exact GO.out))); clear hp_ HS HB HK hx0 hx1 hx2 hx3 hx4 hx5 hx6 hf0 hf1 hf2 hf3 hf4 hf5 hf6; have HS := n0_; have HB := n1_; have HK := n2_; clear n0_ n1_ n2_ hg hw; obtain ⟨v7, oki, hx7, hr7, hok7, hback⟩ := ST_inner HS.out P0.out P1.out; have HR7 := Aside0.mk hr7; have HX := Aside0.mk hback; have HO7 := Aside0.mk hok7; clear hr7 hback hok7) | (go_at_call 49; (with_reducible refine (laws_markIntS.calls k1 oki v7 (rd_T68 x0 x5).f5 (wrap64 (wrap64 (wrap64 (wrap64 (wrap64 (wrap64 (wrap64 (x1 + 1) + 1) + 1) + 1) + 1) + 1) + 1)) t1 t2 w0 _ ?side1 ?side2 HF.out).mono ?_); (case side1 => exact HB.out); (case side2 => exact HR7.out); rintro e w8 ⟨rfl, hr_, hb_, hk_⟩; have n0_ := Aside0.mk (HX.out w8 t2 hk_ hr_); have n1_ := Aside0.mk hb_; have n2_ := Aside0.mk (Kept.then_ HK.out hk_ (fun k_ h_ => .inl (HO7.out k_ h_))); clear HS HB HK hr_ hb_ hk_; have HS := n0_; have HB := n1_; have HK := n2_; clear n0_ n1_ n2_)); try go_wp2_with (first | ((with_reducible refine gate_store (t := 3) (p := 16) rfl ?_); refine store_event (t := 3) (p := 16) (v := ?vo_w1) (w1 := (wr.setCell ⟨g, x5.toNat * 8, none⟩ (.int .i64 (x1)))) ?hg ?ho ?hn ?hr ?_; (case ho => rfl); (case hg => rfl); (case hn => rfl); (case hr => first | (go_simp; done) | (go_simp; rfl)); intro w1 hw; have hp_ := ST_put0 HS.out P0.out P1.out (x1); have hg : wr.grownBy w1 (some g) := (by rw [hw]; exact hp_.2); have n0_ := Aside0.mk (show Kd.S k68 68 w1 w0.heap.size P0_ (.slice (some ⟨g, 0, none⟩) n c0) (x0.set x5.toNat (⟨x1, (rd_T68 x0 x5).f1, (rd_T68 x0 x5).f2, ⟨(rd_T68 x0 x5).f3.f0, (rd_T68 x0 x5).f3.f1⟩, ⟨(rd_T68 x0 x5).f4.f0, (rd_T68 x0 x5).f4.f1⟩, (rd_T68 x0 x5).f5⟩ : S68)) from (by rw [hw]; exact hp_.1)); have n1_ := Aside0.mk ((by rw [hw]; exact below_set (HB.out) GB.out : Below w0.heap.size w0 w1)); have n2_ := Aside0.mk (Kept.of_grown (S := P0_) hg HK.out (fun k_ e_ => .inl (by cases e_; exact GO.out))); clear hp_ HS HB HK hx0 hx1 hx2 hx3 hx4 hx5 hx6 hf0 hf1 hf2 hf3 hf4 hf5 hf6; have HS := n0_; have HB := n1_; have HK := n2_; clear n0_ n1_ n2_ hg hw; obtain ⟨⟨hx0, hx1, hx2, hx3, hx4, hx5, hx6⟩, hf⟩ := ST_at HS.out P0.out P1.out; have hf0 := hf 0; have hf1 := hf 1; have hf2 := hf 2; have hf3 := hf 3; have hf4 := hf 4; have hf5 := hf 5; have hf6 := hf 6; try simp only [Nat.add_zero] at hf0; clear hf) | ((with_reducible refine gate_store (t := 3) (p := 23) rfl ?_); refine store_event (t := 3) (p := 23) (v := ?vo_w2) (w1 := (w1.setCell ⟨g, x5.toNat * 8 + 1, none⟩ (.int .i64 (wrap64 (x1 + 1))))) ?hg ?ho ?hn ?hr ?_; (case ho => rfl); (case hg => rfl); (case hn => rfl); (case hr => first | (go_simp; done) | (go_simp; rfl)); intro w2 hw; have hp_ := ST_put1 HS.out P0.out P1.out (wrap64 (x1 + 1)); have hg : w1.grownBy w2 (some g) := (by rw [hw]; exact hp_.2); have n0_ := Aside0.mk (show Kd.S k68 68 w2 w0.heap.size P0_ (.slice (some ⟨g, 0, none⟩) n c0) (x0.set x5.toNat (⟨x1, wrap64 (x1 + 1), (rd_T68 x0 x5).f2, ⟨(rd_T68 x0 x5).f3.f0, (rd_T68 x0 x5).f3.f1⟩, ⟨(rd_T68 x0 x5).f4.f0, (rd_T68 x0 x5).f4.f1⟩, (rd_T68 x0 x5).f5⟩ : S68)) from (by rw [hw]; exact hp_.1)); have n1_ := Aside0.mk ((by rw [hw]; exact below_set (HB.out) GB.out : Below w0.heap.size w0 w2)); have n2_ := Aside0.mk (Kept.of_grown (S := P0_) hg HK.out (fun k_ e_ => .inl (by cases e_; exact GO.out))); clear hp_ HS HB HK hx0 hx1 hx2 hx3 hx4 hx5 hx6 hf0 hf1 hf2 hf3 hf4 hf5 hf6; have HS := n0_; have HB := n1_; have HK := n2_; clear n0_ n1_ n2_ hg hw; obtain ⟨⟨hx0, hx1, hx2, hx3, hx4, hx5, hx6⟩, hf⟩ := ST_at HS.out P0.out P1.out; have hf0 := hf 0; have hf1 := hf 1; have hf2 := hf 2; have hf3 := hf 3; have hf4 := hf 4; have hf5 := hf 5; have hf6 := hf 6; try simp only [Nat.add_zero] at hf0; clear hf) | ((with_reducible refine gate_store (t := 3) (p := 30) rfl ?_); refine store_event (t := 3) (p := 30) (v := ?vo_w3) (w1 := (w2.setCell ⟨g, x5.toNat * 8 + 2, none⟩ (.int .i64 (wrap64 (wrap64 (x1 + 1) + 1))))) ?hg ?ho ?hn ?hr ?_; (case ho => rfl); (case hg => rfl); (case hn => rfl); (case hr => first | (go_simp; done) | (go_simp; rfl)); intro w3 hw; have hp_ := ST_put2 HS.out P0.out P1.out (wrap64 (wrap64 (x1 + 1) + 1)); have hg : w2.grownBy w3 (some g) := (by rw [hw]; exact hp_.2); have n0_ := Aside0.mk (show Kd.S k68 68 w3 w0.heap.size P0_ (.slice (some ⟨g, 0, none⟩) n c0) (x0.set x5.toNat (⟨x1, wrap64 (x1 + 1), wrap64 (wrap64 (x1 + 1) + 1), ⟨(rd_T68 x0 x5).f3.f0, (rd_T68 x0 x5).f3.f1⟩, ⟨(rd_T68 x0 x5).f4.f0, (rd_T68 x0 x5).f4.f1⟩, (rd_T68 x0 x5).f5⟩ : S68)) from (by rw [hw]; exact hp_.1)); have n1_ := Aside0.mk ((by rw [hw]; exact below_set (HB.out) GB.out : Below w0.heap.size w0 w3)); have n2_ := Aside0.mk (Kept.of_grown (S := P0_) hg HK.out (fun k_ e_ => .inl (by cases e_; exact GO.out))); clear hp_ HS HB HK hx0 hx1 hx2 hx3 hx4 hx5 hx6 hf0 hf1 hf2 hf3 hf4 hf5 hf6; have HS := n0_; have HB := n1_; have HK := n2_; clear n0_ n1_ n2_ hg hw; obtain ⟨⟨hx0, hx1, hx2, hx3, hx4, hx5, hx6⟩, hf⟩ := ST_at HS.out P0.out P1.out; have hf0 := hf 0; have hf1 := hf 1; have hf2 := hf 2; have hf3 := hf 3; have hf4 := hf 4; have hf5 := hf 5; have hf6 := hf 6; try simp only [Nat.add_zero] at hf0; clear hf) | ((with_reducible refine gate_store (t := 3) (p := 38) rfl ?_); refine store_event (t := 3) (p := 38) (v := ?vo_w4) (w1 := (w3.setCell ⟨g, x5.toNat * 8 + 3, none⟩ (.int .i64 (wrap64 (wrap64 (wrap64 (x1 + 1) + 1) + 1))))) ?hg ?ho ?hn ?hr ?_; (case ho => rfl); (case hg => rfl); (case hn => rfl); (case hr => first | (go_simp; done) | (go_simp; rfl)); intro w4 hw; have hp_ := ST_put3 HS.out P0.out P1.out (wrap64 (wrap64 (wrap64 (x1 + 1) + 1) + 1)); have hg : w3.grownBy w4 (some g) := (by rw [hw]; exact hp_.2); have n0_ := Aside0.mk (show Kd.S k68 68 w4 w0.heap.size P0_ (.slice (some ⟨g, 0, none⟩) n c0) (x0.set x5.toNat (⟨x1, wrap64 (x1 + 1), wrap64 (wrap64 (x1 + 1) + 1), ⟨wrap64 (wrap64 (wrap64 (x1 + 1) + 1) + 1), (rd_T68 x0 x5).f3.f1⟩, ⟨(rd_T68 x0 x5).f4.f0, (rd_T68 x0 x5).f4.f1⟩, (rd_T68 x0 x5).f5⟩ : S68)) from (by rw [hw]; exact hp_.1)); have n1_ := Aside0.mk ((by rw [hw]; exact below_set (HB.out) GB.out : Below w0.heap.size w0 w4)); have n2_ := Aside0.mk (Kept.of_grown (S := P0_) hg HK.out (fun k_ e_ => .inl (by cases e_; exact GO.out))); clear hp_ HS HB HK hx0 hx1 hx2 hx3 hx4 hx5 hx6 hf0 hf1 hf2 hf3 hf4 hf5 hf6; have HS := n0_; have HB := n1_; have HK := n2_; clear n0_ n1_ n2_ hg hw; obtain ⟨⟨hx0, hx1, hx2, hx3, hx4, hx5, hx6⟩, hf⟩ := ST_at HS.out P0.out P1.out; have hf0 := hf 0; have hf1 := hf 1; have hf2 := hf 2; have hf3 := hf 3; have hf4 := hf 4; have hf5 := hf 5; have hf6 := hf 6; try simp only [Nat.add_zero] at hf0; clear hf) | ((with_reducible refine gate_store (t := 3) (p := 46) rfl ?_); refine store_event (t := 3) (p := 46) (v := ?vo_w5) (w1 := (w4.setCell ⟨g, x5.toNat * 8 + 4, none⟩ (.int .i64 (wrap64 (wrap64 (wrap64 (wrap64 (x1 + 1) + 1) + 1) + 1))))) ?hg ?ho ?hn ?hr ?_; (case ho => rfl); (case hg => rfl); (case hn => rfl); (case hr => first | (go_simp; done) | (go_simp; rfl)); intro w5 hw; have hp_ := ST_put4 HS.out P0.out P1.out (wrap64 (wrap64 (wrap64 (wrap64 (x1 + 1) + 1) + 1) + 1)); have hg : w4.grownBy w5 (some g) := (by rw [hw]; exact hp_.2); have n0_ := Aside0.mk (show Kd.S k68 68 w5 w0.heap.size P0_ (.slice (some ⟨g, 0, none⟩) n c0) (x0.set x5.toNat (⟨x1, wrap64 (x1 + 1), wrap64 (wrap64 (x1 + 1) + 1), ⟨wrap64 (wrap64 (wrap64 (x1 + 1) + 1) + 1), wrap64 (wrap64 (wrap64 (wrap64 (x1 + 1) + 1) + 1) + 1)⟩, ⟨(rd_T68 x0 x5).f4.f0, (rd_T68 x0 x5).f4.f1⟩, (rd_T68 x0 x5).f5⟩ : S68)) from (by rw [hw]; exact hp_.1)); have n1_ := Aside0.mk ((by rw [hw]; exact below_set (HB.out) GB.out : Below w0.heap.size w0 w5)); have n2_ := Aside0.mk (Kept.of_grown (S := P0_) hg HK.out (fun k_ e_ => .inl (by cases e_; exact GO.out))); clear hp_ HS HB HK hx0 hx1 hx2 hx3 hx4 hx5 hx6 hf0 hf1 hf2 hf3 hf4 hf5 hf6; have HS := n0_; have HB := n1_; have HK := n2_; clear n0_ n1_ n2_ hg hw; obtain ⟨⟨hx0, hx1, hx2, hx3, hx4, hx5, hx6⟩, hf⟩ := ST_at HS.out P0.out P1.out; have hf0 := hf 0; have hf1 := hf 1; have hf2 := hf 2; have hf3 := hf 3; have hf4 := hf 4; have hf5 := hf 5; have hf6 := hf 6; try simp only [Nat.add_zero] at hf0; clear hf) | ((with_reducible refine gate_store (t := 3) (p := 54) rfl ?_); refine store_event (t := 3) (p := 54) (v := ?vo_w6) (w1 := (w5.setCell ⟨g, x5.toNat * 8 + 5, none⟩ (.int .i64 (wrap64 (wrap64 (wrap64 (wrap64 (wrap64 (x1 + 1) + 1) + 1) + 1) + 1))))) ?hg ?ho ?hn ?hr ?_; (case ho => rfl); (case hg => rfl); (case hn => rfl); (case hr => first | (go_simp; done) | (go_simp; rfl)); intro w6 hw; have hp_ := ST_put5 HS.out P0.out P1.out (wrap64 (wrap64 (wrap64 (wrap64 (wrap64 (x1 + 1) + 1) + 1) + 1) + 1)); have hg : w5.grownBy w6 (some g) := (by rw [hw]; exact hp_.2); have n0_ := Aside0.mk (show Kd.S k68 68 w6 w0.heap.size P0_ (.slice (some ⟨g, 0, none⟩) n c0) (x0.set x5.toNat (⟨x1, wrap64 (x1 + 1), wrap64 (wrap64 (x1 + 1) + 1), ⟨wrap64 (wrap64 (wrap64 (x1 + 1) + 1) + 1), wrap64 (wrap64 (wrap64 (wrap64 (x1 + 1) + 1) + 1) + 1)⟩, ⟨wrap64 (wrap64 (wrap64 (wrap64 (wrap64 (x1 + 1) + 1) + 1) + 1) + 1), (rd_T68 x0 x5).f4.f1⟩, (rd_T68 x0 x5).f5⟩ : S68)) from (by rw [hw]; exact hp_.1)); have n1_ := Aside0.mk ((by rw [hw]; exact below_set (HB.out) GB.out : Below w0.heap.size w0 w6)); have n2_ := Aside0.mk (Kept.of_grown (S := P0_) hg HK.out (fun k_ e_ => .inl (by cases e_; exact GO.out))); clear hp_ HS HB HK hx0 hx1 hx2 hx3 hx4 hx5 hx6 hf0 hf1 hf2 hf3 hf4 hf5 hf6; have HS := n0_; have HB := n1_; have HK := n2_; clear n0_ n1_ n2_ hg hw; obtain ⟨⟨hx0, hx1, hx2, hx3, hx4, hx5, hx6⟩, hf⟩ := ST_at HS.out P0.out P1.out; have hf0 := hf 0; have hf1 := hf 1; have hf2 := hf 2; have hf3 := hf 3; have hf4 := hf 4; have hf5 := hf 5; have hf6 := hf 6; try simp only [Nat.add_zero] at hf0; clear hf) | ((with_reducible refine gate_store (t := 3) (p := 62) rfl ?_); refine store_event (t := 3) (p := 62) (v := ?vo_w7) (w1 := (w6.setCell ⟨g, x5.toNat * 8 + 6, none⟩ (.int .i64 (wrap64 (wrap64 (wrap64 (wrap64 (wrap64 (wrap64 (x1 + 1) + 1) + 1) + 1) + 1) + 1))))) ?hg ?ho ?hn ?hr ?_; (case ho => rfl); (case hg => rfl); (case hn => rfl); (case hr => first | (go_simp; done) | (go_simp; rfl)); intro w7 hw; have hp_ := ST_put6 HS.out P0.out P1.out (wrap64 (wrap64 (wrap64 (wrap64 (wrap64 (wrap64 (x1 + 1) + 1) + 1) + 1) + 1) + 1)); have hg : w6.grownBy w7 (some g) := (by rw [hw]; exact hp_.2); have n0_ := Aside0.mk (show Kd.S k68 68 w7 w0.heap.size P0_ (.slice (some ⟨g, 0, none⟩) n c0) (x0.set x5.toNat (⟨x1, wrap64 (x1 + 1), wrap64 (wrap64 (x1 + 1) + 1), ⟨wrap64 (wrap64 (wrap64 (x1 + 1) + 1) + 1), wrap64 (wrap64 (wrap64 (wrap64 (x1 + 1) + 1) + 1) + 1)⟩, ⟨wrap64 (wrap64 (wrap64 (wrap64 (wrap64 (x1 + 1) + 1) + 1) + 1) + 1), wrap64 (wrap64 (wrap64 (wrap64 (wrap64 (wrap64 (x1 + 1) + 1) + 1) + 1) + 1) + 1)⟩, (rd_T68 x0 x5).f5⟩ : S68)) from (by rw [hw]; exact hp_.1)); have n1_ := Aside0.mk ((by rw [hw]; exact below_set (HB.out) GB.out : Below w0.heap.size w0 w7)); have n2_ := Aside0.mk (Kept.of_grown (S := P0_) hg HK.out (fun k_ e_ => .inl (by cases e_; exact GO.out))); clear hp_ HS HB HK hx0 hx1 hx2 hx3 hx4 hx5 hx6 hf0 hf1 hf2 hf3 hf4 hf5 hf6; have HS := n0_; have HB := n1_; have HK := n2_; clear n0_ n1_ n2_ hg hw; obtain ⟨v7, oki, hx7, hr7, hok7, hback⟩ := ST_inner HS.out P0.out P1.out; have HR7 := Aside0.mk hr7; have HX := Aside0.mk hback; have HO7 := Aside0.mk hok7; clear hr7 hback hok7) | (go_at_call 49; (with_reducible refine (laws_markIntS.calls k1 oki v7 (rd_T68 x0 x5).f5 (wrap64 (wrap64 (wrap64 (wrap64 (wrap64 (wrap64 (wrap64 (x1 + 1) + 1) + 1) + 1) + 1) + 1) + 1)) t1 t2 w0 _ ?side1 ?side2 HF.out).mono ?_); (case side1 => exact HB.out); (case side2 => exact HR7.out); rintro e w8 ⟨rfl, hr_, hb_, hk_⟩; have n0_ := Aside0.mk (HX.out w8 t2 hk_ hr_); have n1_ := Aside0.mk hb_; have n2_ := Aside0.mk (Kept.then_ HK.out hk_ (fun k_ h_ => .inl (HO7.out k_ h_))); clear HS HB HK hr_ hb_ hk_; have HS := n0_; have HB := n1_; have HK := n2_; clear n0_ n1_ n2_)))
          go_roundg k1
          case measure => exact Nat.lt_succ_self _
          case rel => exact ⟨x0.set x5.toNat (⟨x1, wrap64 (x1 + 1), wrap64 (wrap64 (x1 + 1) + 1), ⟨wrap64 (wrap64 (wrap64 (x1 + 1) + 1) + 1), wrap64 (wrap64 (wrap64 (wrap64 (x1 + 1) + 1) + 1) + 1)⟩, ⟨wrap64 (wrap64 (wrap64 (wrap64 (wrap64 (x1 + 1) + 1) + 1) + 1) + 1), wrap64 (wrap64 (wrap64 (wrap64 (wrap64 (wrap64 (x1 + 1) + 1) + 1) + 1) + 1) + 1)⟩, t2⟩ : S68), t1, wrap64 (x5 + 1), rfl, rfl, HA, ⟨by have := HQ.out; omega⟩, ⟨by rw [List.length_set]; exact HN.out⟩, HS, HK, HB⟩
        · rw [if_neg c4] at H
          exact absurd H (by simp)
      · rw [if_neg c3] at H
        have c3b0 : decide (x5 < (n : Int)) = false := decide_eq_false c3
        obtain ⟨rfl, rfl⟩ := Prod.mk.inj (Option.some.inj H)
        clear H c3
        go_wp2
        go_ret
        exact ⟨rfl, Kd.S_mono HS.out (fun _ h_ => .inl h_), HB.out, HK.out⟩
  


def laws_markProg.f (k : Nat) (l0_0 : List S68) (a1 : Int) : Option (Int × List S68) := laws_markStepS.f k l0_0 a1
set_option maxHeartbeats 4000000 in
set_option maxRecDepth 100000 in
theorem laws_markProg.calls (k : Nat) (P0_ : Nat → Prop) (u9000_ : Value) (l0_0 : List S68) (a1 : Int) (r1 : Int) (r2 : List S68) (w0 w : World) (hB : Below w0.heap.size w0 w) (ho0 : Kd.S k68 68 w w0.heap.size P0_ u9000_ l0_0) (h : laws_markProg.f k l0_0 a1 = some (r1, r2)) :
  Calls Try.prog 23 #[.agg #[u9000_], .int .i64 a1] w fun e w' => e = .returned (.int .i64 r1) ∧ Kd.S k68 68 w' w0.heap.size (fun k_ => (P0_ k_ ∨ w.heap.size ≤ k_)) u9000_ r2 ∧ Below w0.heap.size w0 w' ∧ Kept w w' (fun k_ => P0_ k_) := by
  have hu2 := Try.underlying29
  have HF : Aside0 (laws_markStepS.f k l0_0 a1 = some (r1, r2)) := ⟨h⟩
  have HS := Aside0.mk ho0
  have HB := Aside0.mk hB
  have HK := Aside0.mk (Kept.refl w P0_)
  clear ho0 hB h
  obtain ⟨A0, c0, rfl⟩ := Kd.S_slice HS.out
  go_enter Try.func23, Try.ntmps23
  go_wp2_with (first | ((with_reducible refine gate_dst (N := 2) rfl ?_); refine box_event ?hg (N := 2) ?hd (cs := #[.slice A0 l0_0.length c0]) (t := 29) ?hr ?_; (case hd => rfl); (case hg => rfl); (case hr => first | (go_simp; done) | (go_simp; rfl)); intro g1 hg w1 hbox hb; have n0_ := Aside0.mk (Kd.S_below HS.out hb); have n1_ := Aside0.mk (below_step HB.out hb); have n2_ := Aside0.mk (Kept.below HK.out hb); have n3_ := Aside0.mk hb.size; have hz0 : w1.cell? ⟨g1, 0, none⟩ = some (.slice A0 l0_0.length c0) := (blk_cell hbox 0).trans rfl; clear HS HB HK hb hbox hg; have HS := n0_; have HB := n1_; have HK := n2_; have HZ := n3_; clear n0_ n1_ n2_ n3_) | (go_at_call 70; (with_reducible refine (laws_markStepS.calls k P0_ _ l0_0 a1 r1 r2 w0 _ ?side1 ?side2 HF.out).mono ?_); (case side1 => exact HB.out); (case side2 => exact HS.out); rintro e w2 ⟨rfl, hr_, hb_, hk_⟩; have n0_ := Aside0.mk (Kd.S_mono hr_ (fun k_ h_ => Or.imp id (Nat.le_trans HZ.out) h_)); have n1_ := Aside0.mk hb_; have n2_ := Aside0.mk (Kept.then_ HK.out hk_ (fun k_ h_ => .inl h_)); clear HS HB HK hr_ hb_ hk_ hz0; have HS := n0_; have HB := n1_; have HK := n2_; clear n0_ n1_ n2_))
  go_ret
  exact ⟨rfl, HS.out, HB.out, HK.out⟩

end Go.Proofs.Ytkehjekbglajhaa.F
