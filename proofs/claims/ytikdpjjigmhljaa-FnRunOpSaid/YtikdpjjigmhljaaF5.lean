-- printed by wip/myprint.py, a program that runs the kit's print.py patched in memory; hand-made contracts stand where that program has none. Not trusted: Lean checks it.
import Derived.Test.YtikdpjjigmhljaaF0
import Derived.Test.YtikdpjjigmhljaaF3
namespace Go.Proofs.Ytikdpjjigmhljaa.F
open Go.RowKit Go.Proofs.YtikdpjjigmhljaaW.PrintWords Go.Proofs.YtikdpjjigmhljaaW.PrintLast Go.Proofs.YtikdpjjigmhljaaW.PrintMore
attribute [local go_sem] max2_int min2_int max_two min_two max_three min_three max_four min_four   -- for this text's walks alone
set_option linter.unusedVariables false
set_option linter.unusedSimpArgs false

/-! ### spec_RunOp: function 11 -/
def spec_RunOp.j0 : Nat → Int → Int → Int → Bool → Option (Int)
 | 0, _, _, _, _ => none
 | k + 1, x0, x1, x2, x14 => if x14 = true then (some 0) else (if x0 = 1 then (some (Int.tmod (wrap64 (x1 + x2)) 65536)) else (if x0 = 2 then (some (Int.tmod (wrap64 ((wrap64 (x1 + 65536)) - x2)) 65536)) else (if x0 = 3 then (some (Int.tmod (wrap64 (x1 * x2)) 65536)) else (if x0 = 4 then (if x1 < x2 then (some 1) else (some 0)) else (some 0)))))
def spec_RunOp.f (k : Nat) (a0 : Int) (a1 : Int) (a2 : Int) : Option (Int) := (spec_l6In.f a1 0 65535).bind fun t142 => (if t142 = true then ((spec_l6In.f a2 0 65535).bind fun t143 => (spec_RunOp.j0 k a0 a1 a2 (!t143))) else (spec_RunOp.j0 k a0 a1 a2 true))
theorem spec_RunOp.mono_l : ∀ k, (∀ y0 y1 y2 y3, LeO (spec_RunOp.j0 k y0 y1 y2 y3) (spec_RunOp.j0 (k + 1) y0 y1 y2 y3))
 | 0 => fun _ _ _ _ r h => by simp [spec_RunOp.j0] at h
 | k + 1 => by
  have ih0 := spec_RunOp.mono_l k
  ·intro y0 y1 y2 y3
   unfold spec_RunOp.j0
   repeat' first
   | (with_reducible exact ih0 _ _ _ _)
   | (with_reducible exact LeO.refl _)
   | (with_reducible exact LeO.none _)
   | (with_reducible refine LeO.ite ?_ ?_)
   | (with_reducible refine LeO.bind ?_ (fun _ => ?_))
   | exact ih0 _ _ _ _
   | exact LeO.none _
   | refine LeO.ite ?_ ?_
   | refine LeO.bind ?_ (fun _ => ?_)
theorem spec_RunOp.mono : ∀ a0 a1 a2 k, LeO (spec_RunOp.f k a0 a1 a2) (spec_RunOp.f (k + 1) a0 a1 a2) := by
 intro a0 a1 a2 k
 have ih0 := spec_RunOp.mono_l k
 unfold spec_RunOp.f
 repeat' first
   | (with_reducible exact ih0 _ _ _ _)
   | (with_reducible exact LeO.refl _)
   | (with_reducible exact LeO.none _)
   | (with_reducible refine LeO.ite ?_ ?_)
   | (with_reducible refine LeO.bind ?_ (fun _ => ?_))
   | exact ih0 _ _ _ _
   | exact LeO.none _
   | refine LeO.ite ?_ ?_
   | refine LeO.bind ?_ (fun _ => ?_)
set_option maxHeartbeats 8000000 in
set_option maxRecDepth 100000 in
theorem spec_RunOp.calls (k : Nat) (a0 : Int) (a1 : Int) (a2 : Int) (r : Int) (w : World) (h : spec_RunOp.f k a0 a1 a2 = some r) :
  Calls Try.prog 11 #[.int .i64 a0, .int .i64 a1, .int .i64 a2] w fun e w' => e = .returned (.int .i64 r) ∧ Drawn0 w w' := by
 have H : ((spec_l6In.f a1 0 65535).bind fun t142 => (if t142 = true then ((spec_l6In.f a2 0 65535).bind fun t143 => (spec_RunOp.j0 k a0 a1 a2 (!t143))) else (spec_RunOp.j0 k a0 a1 a2 true))) = some r := h
 clear h
 have HC4 := Aside0.mk H
 clear H
 go_enter Try.func11, Try.ntmps11
 go_upto_region 1 with (fail)
 go_cut [14] (fun v14 wc => ∃ (kq : Nat) (x14_3 : Bool), v14 = .bool x14_3 ∧ Aside0 (spec_RunOp.j0 kq a0 a1 a2 x14_3 = some r) ∧ Aside0 (kq ≤ k) ∧ Drawn0 w wc)
 case first =>
  have H := HC4.out
  clear HC4
  replace H := Option.bind_eq_some_iff.mp H
  obtain ⟨t142, A50, H⟩ := H
  replace H : (if t142 = true then ((spec_l6In.f a2 0 65535).bind fun t143 => (spec_RunOp.j0 k a0 a1 a2 (!t143))) else (spec_RunOp.j0 k a0 a1 a2 true)) = some r := H
  have A5 := Aside0.mk A50
  clear A50
  by_cases c6 : t142 = true
  ·subst c6
   have H1 : ((spec_l6In.f a2 0 65535).bind fun t143 => (spec_RunOp.j0 k a0 a1 a2 (!t143))) = some r := by rw [if_pos rfl] at H; exact H
   clear H
   have H := H1
   clear H1
   replace H := Option.bind_eq_some_iff.mp H
   obtain ⟨t143, A70, H⟩ := H
   replace H : (spec_RunOp.j0 k a0 a1 a2 (!t143)) = some r := H
   have A7 := Aside0.mk A70
   clear A70
   have H' := Aside0.mk H
   clear H
   go_wp2_with (first | ((with_reducible refine gate_callee (f := 19) rfl ?_); refine goesL_ (some 8) rfl rfl Try.func19 (by kernel_rfl) rfl #[.int .i64 a1, .int .i64 0, .int .i64 65535] rfl (by (try simp only [List.map_toArray, List.map_cons, List.map_nil]); first | done | rfl | (simp only [List.length_drop, List.length_take]; rfl)) ?_; (with_reducible refine (spec_l6In.calls a1 0 65535 true _ A5.out).mono ?_); rintro e w' ⟨rfl, ⟨nd, rfl⟩⟩; refine ⟨_, rfl, ?_⟩) | (go_at_call 19; (with_reducible refine (spec_l6In.calls a2 0 65535 t143 _ A7.out).mono ?_); rintro e w' ⟨rfl, ⟨nd, rfl⟩⟩))
   go_meet
   case rel => exact ⟨_, (!t143), (by first | rfl | (simp; done) | (simp [*]; done)), H', ⟨by first | omega | exact Nat.le_refl _⟩, by repeat (first | exact Drawn0.refl _ | apply Drawn0.step)⟩
  ·replace c6 := Bool.eq_false_iff.mpr c6
   subst c6
   have H1 : (spec_RunOp.j0 k a0 a1 a2 true) = some r := by rw [if_neg (show ¬ (false = true) by decide)] at H; exact H
   clear H
   have H := H1
   clear H1
   have H' := Aside0.mk H
   clear H
   go_wp2_with (first | ((with_reducible refine gate_callee (f := 19) rfl ?_); refine goesL_ (some 8) rfl rfl Try.func19 (by kernel_rfl) rfl #[.int .i64 a1, .int .i64 0, .int .i64 65535] rfl (by (try simp only [List.map_toArray, List.map_cons, List.map_nil]); first | done | rfl | (simp only [List.length_drop, List.length_take]; rfl)) ?_; (with_reducible refine (spec_l6In.calls a1 0 65535 false _ A5.out).mono ?_); rintro e w' ⟨rfl, ⟨nd, rfl⟩⟩; refine ⟨_, rfl, ?_⟩))
   go_meet
   case rel => exact ⟨_, (true), (by first | rfl | (simp; done) | (simp [*]; done)), H', ⟨by first | omega | exact Nat.le_refl _⟩, by repeat (first | exact Drawn0.refl _ | apply Drawn0.step)⟩
 case rest =>
  clear HC4
  try clear c1
  try clear p2
  try clear c6
  obtain ⟨kq, x14_3, rfl, HA, HJ3, ⟨mc3, rfl⟩⟩ := hcut
  cases kq with
  | zero => exact absurd HA.out (by simp [spec_RunOp.j0])
  | succ kj3 =>
   have H := HA.out
   clear HA
   simp only [spec_RunOp.j0] at H
   by_cases c8 : x14_3 = true
   ·subst c8
    have H1 : (some 0) = some r := by rw [if_pos rfl] at H; exact H
    clear H
    have H := H1
    clear H1
    obtain rfl := Option.some.inj H
    go_wp2
    go_ret
    exact ⟨by first | rfl | (simp; done) | (simp [*]; done), by repeat (first | exact Drawn0.refl _ | apply Drawn0.step)⟩
   ·replace c8 := Bool.eq_false_iff.mpr c8
    subst c8
    have H1 : (if a0 = 1 then (some (Int.tmod (wrap64 (a1 + a2)) 65536)) else (if a0 = 2 then (some (Int.tmod (wrap64 ((wrap64 (a1 + 65536)) - a2)) 65536)) else (if a0 = 3 then (some (Int.tmod (wrap64 (a1 * a2)) 65536)) else (if a0 = 4 then (if a1 < a2 then (some 1) else (some 0)) else (some 0))))) = some r := by rw [if_neg (show ¬ (false = true) by decide)] at H; exact H
    clear H
    have H := H1
    clear H1
    by_cases c9 : a0 = 1
    ·rw [if_pos c9] at H
     have c9b0 : (a0 == 1) = true := beq_iff_eq.mpr c9
     have c9b1 : (a0 != 1) = false := bne_eq_false_iff_eq.mpr c9
     clear c9
     obtain rfl := Option.some.inj H
     go_wp2
     go_ret
     exact ⟨by first | rfl | (simp; done) | (simp [*]; done), by repeat (first | exact Drawn0.refl _ | apply Drawn0.step)⟩
    ·rw [if_neg c9] at H
     have c9b0 : (a0 == 1) = false := beq_eq_false_iff_ne.mpr c9
     have c9b1 : (a0 != 1) = true := bne_iff_ne.mpr c9
     by_cases c10 : a0 = 2
     ·rw [if_pos c10] at H
      have c10b0 : (a0 == 2) = true := beq_iff_eq.mpr c10
      have c10b1 : (a0 != 2) = false := bne_eq_false_iff_eq.mpr c10
      clear c10
      obtain rfl := Option.some.inj H
      go_wp2
      go_ret
      exact ⟨by first | rfl | (simp; done) | (simp [*]; done), by repeat (first | exact Drawn0.refl _ | apply Drawn0.step)⟩
     ·rw [if_neg c10] at H
      have c10b0 : (a0 == 2) = false := beq_eq_false_iff_ne.mpr c10
      have c10b1 : (a0 != 2) = true := bne_iff_ne.mpr c10
      by_cases c11 : a0 = 3
      ·rw [if_pos c11] at H
       have c11b0 : (a0 == 3) = true := beq_iff_eq.mpr c11
       have c11b1 : (a0 != 3) = false := bne_eq_false_iff_eq.mpr c11
       clear c11
       obtain rfl := Option.some.inj H
       go_wp2
       go_ret
       exact ⟨by first | rfl | (simp; done) | (simp [*]; done), by repeat (first | exact Drawn0.refl _ | apply Drawn0.step)⟩
      ·rw [if_neg c11] at H
       have c11b0 : (a0 == 3) = false := beq_eq_false_iff_ne.mpr c11
       have c11b1 : (a0 != 3) = true := bne_iff_ne.mpr c11
       by_cases c12 : a0 = 4
       ·rw [if_pos c12] at H
        have c12b0 : (a0 == 4) = true := beq_iff_eq.mpr c12
        have c12b1 : (a0 != 4) = false := bne_eq_false_iff_eq.mpr c12
        clear c12
        by_cases c13 : a1 < a2
        ·rw [if_pos c13] at H
         have c13b0 : decide (a1 < a2) = true := decide_eq_true c13
         clear c13
         obtain rfl := Option.some.inj H
         go_wp2
         go_ret
         exact ⟨by first | rfl | (simp; done) | (simp [*]; done), by repeat (first | exact Drawn0.refl _ | apply Drawn0.step)⟩
        ·rw [if_neg c13] at H
         have c13b0 : decide (a1 < a2) = false := decide_eq_false c13
         clear c13
         obtain rfl := Option.some.inj H
         go_wp2
         go_ret
         exact ⟨by first | rfl | (simp; done) | (simp [*]; done), by repeat (first | exact Drawn0.refl _ | apply Drawn0.step)⟩
       ·rw [if_neg c12] at H
        have c12b0 : (a0 == 4) = false := beq_eq_false_iff_ne.mpr c12
        have c12b1 : (a0 != 4) = true := bne_iff_ne.mpr c12
        obtain rfl := Option.some.inj H
        go_wp2
        go_ret
        exact ⟨by first | rfl | (simp; done) | (simp [*]; done), by repeat (first | exact Drawn0.refl _ | apply Drawn0.step)⟩

/-! ### impl_RunOp: function 12 -/
def impl_RunOp.j0 : Nat → Int → Int → Int → Bool → Option (Int)
 | 0, _, _, _, _ => none
 | k + 1, x0, x1, x2, x14 => if x14 = true then (some 0) else (if x0 = 1 then (some (Int.tmod (wrap64 (x1 + x2)) 65536)) else (if x0 = 2 then (some (Int.tmod (wrap64 ((wrap64 (x1 - x2)) + 65536)) 65536)) else (if x0 = 3 then (some (Int.tmod (wrap64 (x1 * x2)) 65536)) else (if x0 = 4 then (if x1 < x2 then (some 1) else (some 0)) else (some 0)))))
def impl_RunOp.f (k : Nat) (a0 : Int) (a1 : Int) (a2 : Int) : Option (Int) := (impl_isNum.f a1).bind fun t144 => (if t144 = true then ((impl_isNum.f a2).bind fun t145 => (impl_RunOp.j0 k a0 a1 a2 (!t145))) else (impl_RunOp.j0 k a0 a1 a2 true))
theorem impl_RunOp.mono_l : ∀ k, (∀ y0 y1 y2 y3, LeO (impl_RunOp.j0 k y0 y1 y2 y3) (impl_RunOp.j0 (k + 1) y0 y1 y2 y3))
 | 0 => fun _ _ _ _ r h => by simp [impl_RunOp.j0] at h
 | k + 1 => by
  have ih0 := impl_RunOp.mono_l k
  ·intro y0 y1 y2 y3
   unfold impl_RunOp.j0
   repeat' first
   | (with_reducible exact ih0 _ _ _ _)
   | (with_reducible exact LeO.refl _)
   | (with_reducible exact LeO.none _)
   | (with_reducible refine LeO.ite ?_ ?_)
   | (with_reducible refine LeO.bind ?_ (fun _ => ?_))
   | exact ih0 _ _ _ _
   | exact LeO.none _
   | refine LeO.ite ?_ ?_
   | refine LeO.bind ?_ (fun _ => ?_)
theorem impl_RunOp.mono : ∀ a0 a1 a2 k, LeO (impl_RunOp.f k a0 a1 a2) (impl_RunOp.f (k + 1) a0 a1 a2) := by
 intro a0 a1 a2 k
 have ih0 := impl_RunOp.mono_l k
 unfold impl_RunOp.f
 repeat' first
   | (with_reducible exact ih0 _ _ _ _)
   | (with_reducible exact LeO.refl _)
   | (with_reducible exact LeO.none _)
   | (with_reducible refine LeO.ite ?_ ?_)
   | (with_reducible refine LeO.bind ?_ (fun _ => ?_))
   | exact ih0 _ _ _ _
   | exact LeO.none _
   | refine LeO.ite ?_ ?_
   | refine LeO.bind ?_ (fun _ => ?_)
set_option maxHeartbeats 8000000 in
set_option maxRecDepth 100000 in
theorem impl_RunOp.calls (k : Nat) (a0 : Int) (a1 : Int) (a2 : Int) (r : Int) (w : World) (h : impl_RunOp.f k a0 a1 a2 = some r) :
  Calls Try.prog 12 #[.int .i64 a0, .int .i64 a1, .int .i64 a2] w fun e w' => e = .returned (.int .i64 r) ∧ Drawn0 w w' := by
 have H : ((impl_isNum.f a1).bind fun t144 => (if t144 = true then ((impl_isNum.f a2).bind fun t145 => (impl_RunOp.j0 k a0 a1 a2 (!t145))) else (impl_RunOp.j0 k a0 a1 a2 true))) = some r := h
 clear h
 have HC4 := Aside0.mk H
 clear H
 go_enter Try.func12, Try.ntmps12
 go_upto_region 1 with (fail)
 go_cut [14] (fun v14 wc => ∃ (kq : Nat) (x14_3 : Bool), v14 = .bool x14_3 ∧ Aside0 (impl_RunOp.j0 kq a0 a1 a2 x14_3 = some r) ∧ Aside0 (kq ≤ k) ∧ Drawn0 w wc)
 case first =>
  have H := HC4.out
  clear HC4
  replace H := Option.bind_eq_some_iff.mp H
  obtain ⟨t144, A50, H⟩ := H
  replace H : (if t144 = true then ((impl_isNum.f a2).bind fun t145 => (impl_RunOp.j0 k a0 a1 a2 (!t145))) else (impl_RunOp.j0 k a0 a1 a2 true)) = some r := H
  have A5 := Aside0.mk A50
  clear A50
  by_cases c6 : t144 = true
  ·subst c6
   have H1 : ((impl_isNum.f a2).bind fun t145 => (impl_RunOp.j0 k a0 a1 a2 (!t145))) = some r := by rw [if_pos rfl] at H; exact H
   clear H
   have H := H1
   clear H1
   replace H := Option.bind_eq_some_iff.mp H
   obtain ⟨t145, A70, H⟩ := H
   replace H : (impl_RunOp.j0 k a0 a1 a2 (!t145)) = some r := H
   have A7 := Aside0.mk A70
   clear A70
   have H' := Aside0.mk H
   clear H
   go_wp2_with (first | ((with_reducible refine gate_callee (f := 24) rfl ?_); refine goesL_ (some 8) rfl rfl Try.func24 (by kernel_rfl) rfl #[.int .i64 a1] rfl (by (try simp only [List.map_toArray, List.map_cons, List.map_nil]); first | done | rfl | (simp only [List.length_drop, List.length_take]; rfl)) ?_; (with_reducible refine (impl_isNum.calls a1 true _ A5.out).mono ?_); rintro e w' ⟨rfl, ⟨nd, rfl⟩⟩; refine ⟨_, rfl, ?_⟩) | (go_at_call 24; (with_reducible refine (impl_isNum.calls a2 t145 _ A7.out).mono ?_); rintro e w' ⟨rfl, ⟨nd, rfl⟩⟩))
   go_meet
   case rel => exact ⟨_, (!t145), (by first | rfl | (simp; done) | (simp [*]; done)), H', ⟨by first | omega | exact Nat.le_refl _⟩, by repeat (first | exact Drawn0.refl _ | apply Drawn0.step)⟩
  ·replace c6 := Bool.eq_false_iff.mpr c6
   subst c6
   have H1 : (impl_RunOp.j0 k a0 a1 a2 true) = some r := by rw [if_neg (show ¬ (false = true) by decide)] at H; exact H
   clear H
   have H := H1
   clear H1
   have H' := Aside0.mk H
   clear H
   go_wp2_with (first | ((with_reducible refine gate_callee (f := 24) rfl ?_); refine goesL_ (some 8) rfl rfl Try.func24 (by kernel_rfl) rfl #[.int .i64 a1] rfl (by (try simp only [List.map_toArray, List.map_cons, List.map_nil]); first | done | rfl | (simp only [List.length_drop, List.length_take]; rfl)) ?_; (with_reducible refine (impl_isNum.calls a1 false _ A5.out).mono ?_); rintro e w' ⟨rfl, ⟨nd, rfl⟩⟩; refine ⟨_, rfl, ?_⟩))
   go_meet
   case rel => exact ⟨_, (true), (by first | rfl | (simp; done) | (simp [*]; done)), H', ⟨by first | omega | exact Nat.le_refl _⟩, by repeat (first | exact Drawn0.refl _ | apply Drawn0.step)⟩
 case rest =>
  clear HC4
  try clear c1
  try clear c2
  try clear p2
  try clear c6
  obtain ⟨kq, x14_3, rfl, HA, HJ3, ⟨mc3, rfl⟩⟩ := hcut
  cases kq with
  | zero => exact absurd HA.out (by simp [impl_RunOp.j0])
  | succ kj3 =>
   have H := HA.out
   clear HA
   simp only [impl_RunOp.j0] at H
   by_cases c8 : x14_3 = true
   ·subst c8
    have H1 : (some 0) = some r := by rw [if_pos rfl] at H; exact H
    clear H
    have H := H1
    clear H1
    obtain rfl := Option.some.inj H
    go_wp2
    go_ret
    exact ⟨by first | rfl | (simp; done) | (simp [*]; done), by repeat (first | exact Drawn0.refl _ | apply Drawn0.step)⟩
   ·replace c8 := Bool.eq_false_iff.mpr c8
    subst c8
    have H1 : (if a0 = 1 then (some (Int.tmod (wrap64 (a1 + a2)) 65536)) else (if a0 = 2 then (some (Int.tmod (wrap64 ((wrap64 (a1 - a2)) + 65536)) 65536)) else (if a0 = 3 then (some (Int.tmod (wrap64 (a1 * a2)) 65536)) else (if a0 = 4 then (if a1 < a2 then (some 1) else (some 0)) else (some 0))))) = some r := by rw [if_neg (show ¬ (false = true) by decide)] at H; exact H
    clear H
    have H := H1
    clear H1
    by_cases c9 : a0 = 1
    ·rw [if_pos c9] at H
     have c9b0 : (a0 == 1) = true := beq_iff_eq.mpr c9
     have c9b1 : (a0 != 1) = false := bne_eq_false_iff_eq.mpr c9
     clear c9
     obtain rfl := Option.some.inj H
     go_wp2
     go_ret
     exact ⟨by first | rfl | (simp; done) | (simp [*]; done), by repeat (first | exact Drawn0.refl _ | apply Drawn0.step)⟩
    ·rw [if_neg c9] at H
     have c9b0 : (a0 == 1) = false := beq_eq_false_iff_ne.mpr c9
     have c9b1 : (a0 != 1) = true := bne_iff_ne.mpr c9
     by_cases c10 : a0 = 2
     ·rw [if_pos c10] at H
      have c10b0 : (a0 == 2) = true := beq_iff_eq.mpr c10
      have c10b1 : (a0 != 2) = false := bne_eq_false_iff_eq.mpr c10
      clear c10
      obtain rfl := Option.some.inj H
      go_wp2
      go_ret
      exact ⟨by first | rfl | (simp; done) | (simp [*]; done), by repeat (first | exact Drawn0.refl _ | apply Drawn0.step)⟩
     ·rw [if_neg c10] at H
      have c10b0 : (a0 == 2) = false := beq_eq_false_iff_ne.mpr c10
      have c10b1 : (a0 != 2) = true := bne_iff_ne.mpr c10
      by_cases c11 : a0 = 3
      ·rw [if_pos c11] at H
       have c11b0 : (a0 == 3) = true := beq_iff_eq.mpr c11
       have c11b1 : (a0 != 3) = false := bne_eq_false_iff_eq.mpr c11
       clear c11
       obtain rfl := Option.some.inj H
       go_wp2
       go_ret
       exact ⟨by first | rfl | (simp; done) | (simp [*]; done), by repeat (first | exact Drawn0.refl _ | apply Drawn0.step)⟩
      ·rw [if_neg c11] at H
       have c11b0 : (a0 == 3) = false := beq_eq_false_iff_ne.mpr c11
       have c11b1 : (a0 != 3) = true := bne_iff_ne.mpr c11
       by_cases c12 : a0 = 4
       ·rw [if_pos c12] at H
        have c12b0 : (a0 == 4) = true := beq_iff_eq.mpr c12
        have c12b1 : (a0 != 4) = false := bne_eq_false_iff_eq.mpr c12
        clear c12
        by_cases c13 : a1 < a2
        ·rw [if_pos c13] at H
         have c13b0 : decide (a1 < a2) = true := decide_eq_true c13
         clear c13
         obtain rfl := Option.some.inj H
         go_wp2
         go_ret
         exact ⟨by first | rfl | (simp; done) | (simp [*]; done), by repeat (first | exact Drawn0.refl _ | apply Drawn0.step)⟩
        ·rw [if_neg c13] at H
         have c13b0 : decide (a1 < a2) = false := decide_eq_false c13
         clear c13
         obtain rfl := Option.some.inj H
         go_wp2
         go_ret
         exact ⟨by first | rfl | (simp; done) | (simp [*]; done), by repeat (first | exact Drawn0.refl _ | apply Drawn0.step)⟩
       ·rw [if_neg c12] at H
        have c12b0 : (a0 == 4) = false := beq_eq_false_iff_ne.mpr c12
        have c12b1 : (a0 != 4) = true := bne_iff_ne.mpr c12
        obtain rfl := Option.some.inj H
        go_wp2
        go_ret
        exact ⟨by first | rfl | (simp; done) | (simp [*]; done), by repeat (first | exact Drawn0.refl _ | apply Drawn0.step)⟩

end Go.Proofs.Ytikdpjjigmhljaa.F
