-- printed by wip/lawwalk.py, a program of this session: the walk of FnExactExprComp
import Derived.Test.YtkehjekbglajhaaPureMarks
import Derived.Test.YtkehjekbglajhaaPureExprComp
import Derived.Test.YtkehjekbglajhaaPureWin
import Derived.Test.YtkehjekbglajhaaF3
import Derived.Test.YtkehjekbglajhaaF5
import Derived.Test.YtkehjekbglajhaaF6
import Derived.Test.YtkehjekbglajhaaF7
import Derived.Test.YtkehjekbglajhaaF10
import Derived.Test.YtkehjekbglajhaaF14
import Derived.Test.YtkehjekbglajhaaF18
set_option linter.unusedSimpArgs false
namespace Go.Proofs.Ytkehjekbglajhaa.Pure
open Go.RowKit Go.Proofs.Ytkehjekbglajhaa.F Go.Proofs.YtkehjekbglajhaaW.PrintWords Go.Proofs.YtkehjekbglajhaaW.PrintLast Go.Proofs.YtkehjekbglajhaaW.PrintMore
theorem laws_heldBoolS_at {n : Nat} {l0 : List Bool} (hn : n = l0.length) (k : Nat) (A0 : Option Addr) (c0 : Nat)  (a1 : Int) (r : Int) (w : World) (hr0 : Kd.C Kd.bool w A0 l0.length l0) (hc0 : l0.length ≤ c0) (h : laws_heldBoolS.f k l0 a1 = some r) :
    Calls Try.prog 25 #[.slice A0 n c0, .int .i64 a1] w fun e w' => e = .returned (.int .i64 r) ∧ Drawn0 w w' := by
 subst hn
 exact laws_heldBoolS.calls k A0 c0 l0 a1 r w hr0 hc0 h
set_option maxHeartbeats 8000000 in
set_option maxRecDepth 100000 in
theorem FnExactExprComp_go (k : Nat) (A0 : Option Addr) (c0 : Nat) (l : List S94) (x1a x1b x1c x1d x1e : Int) (left : Int) (p : List S68) (ea : Int) (eb : Int) (ec : Int) (ed : Int) (ee : Int) (g : List Bool) (mk : Int) (p' : List S68) (m : Int) (g' : List Bool) (w : World) (hr0 : Kd.C k94 w A0 l.length l) (hc0 : l.length ≤ c0) (E0 : laws_szProg.f k l 1048576 = some left) (E1 : laws_toProg.f k l = some p) (E2 : laws_toExpr.f x1a x1b x1c x1d x1e = some (ea, eb, ec, ed, ee)) (E3 : spec_ExprComp.f k p ea eb ec ed ee = some g) (E4 : impl_ExprComp.f p ea eb ec ed ee = some g) (E5 : laws_eqBoolS.f k g g = some true) (E6 : laws_eqProg.f k p p = some true) (E7 : 0 ≤ mk) (E8 : laws_markProg.f k p 1 = some (mk, p')) (E9 : laws_markBoolS.f k g 1 = some (m, g')) (E10 : laws_heldBoolS.f k g' 1 = some m) (E11 : g.length = g'.length) (hleft : ¬ left < 0) (hm : 0 ≤ m) :
    Calls Try.prog 5 #[.agg #[.slice A0 l.length c0], .agg #[.int .i64 x1a, .int .i64 x1b, .int .i64 x1c, .int .i64 x1d, .int .i64 x1e]] w fun e w' => e = .returned (.bool true) ∧ Below w.heap.size w w' := by
 have hu24 := Try.underlying24
 have hu29 := Try.underlying29
 have hu39 := Try.underlying39
 have hu41 := Try.underlying41
 have hu43 := Try.underlying43
 have hu45 := Try.underlying45
 have c1_ : decide (left < 0) = false := decide_eq_false hleft
 have c2_ : decide (mk < 0) = false := decide_eq_false (Int.not_lt.2 E7)
 have c3_ : decide (m < 0) = false := decide_eq_false (Int.not_lt.2 hm)
 have c4_ : (m != m) = false := bne_self_eq_false m
 clear hm
 clear hleft
 have HR0 := Aside0.mk hr0
 have HC0 := Aside0.mk hc0
 clear hr0 hc0
 have HB := Aside0.mk (Below.refl w.heap.size w)
 replace E0 := Aside0.mk E0
 replace E1 := Aside0.mk E1
 replace E2 := Aside0.mk E2
 replace E3 := Aside0.mk E3
 replace E4 := Aside0.mk E4
 replace E5 := Aside0.mk E5
 replace E6 := Aside0.mk E6
 replace E7 := Aside0.mk E7
 replace E8 := Aside0.mk E8
 replace E9 := Aside0.mk E9
 replace E10 := Aside0.mk E10
 replace E11 := Aside0.mk E11
 go_enter Try.func5, Try.ntmps5
 go_wp2_with (first | ((with_reducible refine gate_dst (N := 2) rfl ?_); refine box_event ?hg (N := 2) ?hd (cs := #[.slice A0 l.length c0]) (t := 24) ?hr ?_; (case hd => rfl); (case hg => rfl); (case hr => first | (go_simp; done) | (go_simp; rfl)); intro gb2 hg w3 hbox hb; have n0_ := Aside0.mk (below_step HB.out hb); have n1_ := Aside0.mk (hbox); have n2_ := Aside0.mk ((by rw [hg]; exact HB.out.size : w.heap.size ≤ gb2)); clear HB; have HB := n0_; have BK1 := n1_; have GEBK1 := n2_; clear n0_ n1_ n2_; clear hb hbox hg; have hz_BK1_0 : w3.cell? ⟨gb2, 0, none⟩ = some (.slice A0 l.length c0) := (blk_cell BK1.out 0).trans rfl) | ((with_reducible refine gate_dst (N := 3) rfl ?_); refine box_event ?hg (N := 3) ?hd (cs := #[.int .i64 x1a, .int .i64 x1b, .int .i64 x1c, .int .i64 x1d, .int .i64 x1e]) (t := 41) ?hr ?_; (case hd => rfl); (case hg => rfl); (case hr => first | (go_simp; done) | (go_simp; rfl)); intro gb5 hg w6 hbox hb; have n0_ := Aside0.mk (blk_below BK1.out hb); have n1_ := Aside0.mk (below_step HB.out hb); have n2_ := Aside0.mk (hbox); have n3_ := Aside0.mk ((by rw [hg]; exact HB.out.size : w.heap.size ≤ gb5)); have n4_ := Aside0.mk ((by rw [hg]; exact blk_lt BK1.out : gb2 < gb5)); clear BK1 HB; have BK1 := n0_; have HB := n1_; have BK4 := n2_; have GEBK4 := n3_; have OR_BK1_BK4 := n4_; clear n0_ n1_ n2_ n3_ n4_; clear hb hbox hg; (try clear hz_BK1_0); have hz_BK1_0 : w6.cell? ⟨gb2, 0, none⟩ = some (.slice A0 l.length c0) := (blk_cell BK1.out 0).trans rfl; have hz_BK4_0 : w6.cell? ⟨gb5, 0, none⟩ = some (.int .i64 x1a) := (blk_cell BK4.out 0).trans rfl; have hz_BK4_1 : w6.cell? ⟨gb5, 1, none⟩ = some (.int .i64 x1b) := (blk_cell BK4.out 1).trans rfl; have hz_BK4_2 : w6.cell? ⟨gb5, 2, none⟩ = some (.int .i64 x1c) := (blk_cell BK4.out 2).trans rfl; have hz_BK4_3 : w6.cell? ⟨gb5, 3, none⟩ = some (.int .i64 x1d) := (blk_cell BK4.out 3).trans rfl; have hz_BK4_4 : w6.cell? ⟨gb5, 4, none⟩ = some (.int .i64 x1e) := (blk_cell BK4.out 4).trans rfl) | ((with_reducible refine gate_callee (f := 15) rfl ?_); refine goesL_ (some 15) rfl rfl Try.func15 (by kernel_rfl) rfl #[.agg #[.slice A0 l.length c0], .int .i64 1048576] rfl (by (try simp only [List.map_toArray, List.map_cons, List.map_nil]); first | done | rfl) ?_; (with_reducible refine (laws_szProg.calls k _ _ l 1048576 left _ ?side1 ?side2 E0.out).mono ?_); (case side1 => exact Kd.C_below HR0.out HB.out); (case side2 => exact HC0.out); rintro e w7 ⟨rfl, hb⟩; refine ⟨_, rfl, ?_⟩; have n0_ := Aside0.mk (blk_below BK1.out hb); have n1_ := Aside0.mk (blk_below BK4.out hb); have n2_ := Aside0.mk (below_step HB.out hb); clear BK1 BK4 HB; have BK1 := n0_; have BK4 := n1_; have HB := n2_; clear n0_ n1_ n2_; clear hb; (try clear hz_BK1_0 hz_BK4_0 hz_BK4_1 hz_BK4_2 hz_BK4_3 hz_BK4_4); have hz_BK1_0 : w7.cell? ⟨gb2, 0, none⟩ = some (.slice A0 l.length c0) := (blk_cell BK1.out 0).trans rfl; have hz_BK4_0 : w7.cell? ⟨gb5, 0, none⟩ = some (.int .i64 x1a) := (blk_cell BK4.out 0).trans rfl; have hz_BK4_1 : w7.cell? ⟨gb5, 1, none⟩ = some (.int .i64 x1b) := (blk_cell BK4.out 1).trans rfl; have hz_BK4_2 : w7.cell? ⟨gb5, 2, none⟩ = some (.int .i64 x1c) := (blk_cell BK4.out 2).trans rfl; have hz_BK4_3 : w7.cell? ⟨gb5, 3, none⟩ = some (.int .i64 x1d) := (blk_cell BK4.out 3).trans rfl; have hz_BK4_4 : w7.cell? ⟨gb5, 4, none⟩ = some (.int .i64 x1e) := (blk_cell BK4.out 4).trans rfl))
 have n0_ := Aside0.mk (blk_below BK1.out (below_drew (Below.refl _ _)))
 have n1_ := Aside0.mk (blk_below BK4.out (below_drew (Below.refl _ _)))
 have n2_ := Aside0.mk (below_step HB.out (below_drew (Below.refl _ _)))
 clear BK1 BK4 HB
 have BK1 := n0_
 have BK4 := n1_
 have HB := n2_
 clear n0_ n1_ n2_
 refine start_ (n := 6) (S := fun w' => w'.cell? ⟨gb2, 0, none⟩ = some (.slice A0 l.length c0) ∧ w'.cell? ⟨gb5, 0, none⟩ = some (.int .i64 x1a) ∧ w'.cell? ⟨gb5, 1, none⟩ = some (.int .i64 x1b) ∧ w'.cell? ⟨gb5, 2, none⟩ = some (.int .i64 x1c) ∧ w'.cell? ⟨gb5, 3, none⟩ = some (.int .i64 x1d) ∧ w'.cell? ⟨gb5, 4, none⟩ = some (.int .i64 x1e)) (ds := []) #[false, false, false, false, false, false] (by kernel_rfl) rfl rfl ⟨(blk_cell BK1.out 0).trans rfl, (blk_cell BK4.out 0).trans rfl, (blk_cell BK4.out 1).trans rfl, (blk_cell BK4.out 2).trans rfl, (blk_cell BK4.out 3).trans rfl, (blk_cell BK4.out 4).trans rfl⟩ (fun hHeld => ?_)
 (try clear hz_BK1_0 hz_BK4_0 hz_BK4_1 hz_BK4_2 hz_BK4_3 hz_BK4_4)
 generalize w7.drew = w8 at BK1 BK4 HB hHeld ⊢
 refine take_ (i := 0) (N := some 18) (v := ?_) (a' := ?_) #[true, false, false, false, false, false] rfl rfl (by kernel_rfl) (fun _ _ _ h => h) (Or.inl ⟨by rfl, ?_⟩) hHeld ?_ ?_
 rotate_left
 ·rintro w' ⟨s0, s1, s2, s3, s4, s5⟩
  go_simp
  with_reducible rfl
 rotate_left
 ·simp only [Act.put, List.setIfInBounds_toArray, List.set_cons_zero, List.set_cons_succ, i64_w, i32_w]
  rfl
 refine take_ (i := 2) (N := some 20) (v := ?_) (a' := ?_) #[true, false, true, false, false, false] rfl rfl (by kernel_rfl) (fun _ _ _ h => h) (Or.inl ⟨by rfl, ?_⟩) hHeld ?_ ?_
 rotate_left
 ·rintro w' ⟨s0, s1, s2, s3, s4, s5⟩
  go_simp
  with_reducible rfl
 rotate_left
 ·simp only [Act.put, List.setIfInBounds_toArray, List.set_cons_zero, List.set_cons_succ, i64_w, i32_w]
  rfl
 refine one_ (i := 1) (N := some 19) #[true, true, true, false, false, false] rfl rfl (by kernel_rfl) (by decide) (fun K hK => ?_)
 refine goes_ Try.func17 (by kernel_rfl) rfl #[.agg #[.slice A0 l.length c0]] (by rfl) rfl rfl (by (try simp only [List.map_toArray, List.map_cons, List.map_nil]); first | done | rfl) ?_
 with_reducible refine (laws_toProg.calls k _ _ l p _ ?side1 ?side2 E1.out).mono ?_
 (case side1 => exact Kd.C_below HR0.out HB.out)
 (case side2 => exact HC0.out)
 rintro e w9 ⟨v_, rfl, ho, hb⟩
 refine ⟨_, rfl, ?_⟩
 have n0_ := Aside0.mk (blk_below BK1.out hb)
 have n1_ := Aside0.mk (blk_below BK4.out hb)
 have n2_ := Aside0.mk (below_step HB.out hb)
 have n3_ := Aside0.mk (SW.of ho hb HB.out)
 have n4_ := Aside0.mk (blk_lt BK1.out)
 have n5_ := Aside0.mk (blk_lt BK4.out)
 clear BK1 BK4 HB
 have BK1 := n0_
 have BK4 := n1_
 have HB := n2_
 have HO10 := n3_
 have OR_BK1_HO10 := n4_
 have OR_BK4_HO10 := n5_
 clear n0_ n1_ n2_ n3_ n4_ n5_
 clear hb ho
 obtain ⟨Ao11, co12, eo_⟩ := HO10.out.slice
 subst eo_
 refine hK.out _ _ ⟨(blk_cell BK1.out 0).trans rfl, (blk_cell BK4.out 0).trans rfl, (blk_cell BK4.out 1).trans rfl, (blk_cell BK4.out 2).trans rfl, (blk_cell BK4.out 3).trans rfl, (blk_cell BK4.out 4).trans rfl⟩ (fun hHeld => ?_)
 clear hK K
 refine norm_ (a' := ?_) ?_ ?_
 rotate_left
 ·show Act.put _ (some 19) _ = _
  simp only [Act.put, List.setIfInBounds_toArray, List.set_cons_zero, List.set_cons_succ, i64_w, i32_w]
  rfl
 refine one_ (i := 3) (N := some 21) #[true, true, true, true, false, false] rfl rfl (by kernel_rfl) (by decide) (fun K hK => ?_)
 refine goes_ Try.func27 (by kernel_rfl) rfl #[.agg #[.int .i64 x1a, .int .i64 x1b, .int .i64 x1c, .int .i64 x1d, .int .i64 x1e]] (by rfl) rfl rfl (by (try simp only [List.map_toArray, List.map_cons, List.map_nil]); first | done | rfl) ?_
 with_reducible refine (laws_toExpr.calls x1a x1b x1c x1d x1e ea eb ec ed ee _ E2.out).mono ?_
 rintro e w13 ⟨rfl, hb⟩
 refine ⟨_, rfl, ?_⟩
 have n0_ := Aside0.mk (blk_below BK1.out hb)
 have n1_ := Aside0.mk (blk_below BK4.out hb)
 have n2_ := Aside0.mk (SW.below HO10.out hb)
 have n3_ := Aside0.mk (below_step HB.out hb)
 clear BK1 BK4 HO10 HB
 have BK1 := n0_
 have BK4 := n1_
 have HO10 := n2_
 have HB := n3_
 clear n0_ n1_ n2_ n3_
 clear hb
 refine hK.out _ _ ⟨(blk_cell BK1.out 0).trans rfl, (blk_cell BK4.out 0).trans rfl, (blk_cell BK4.out 1).trans rfl, (blk_cell BK4.out 2).trans rfl, (blk_cell BK4.out 3).trans rfl, (blk_cell BK4.out 4).trans rfl⟩ (fun hHeld => ?_)
 clear hK K
 refine norm_ (a' := ?_) ?_ ?_
 rotate_left
 ·show Act.put _ (some 21) _ = _
  simp only [Act.put, List.setIfInBounds_toArray, List.set_cons_zero, List.set_cons_succ, i64_w, i32_w]
  rfl
 refine one_ (i := 4) (N := some 22) #[true, true, true, true, true, false] rfl rfl (by kernel_rfl) (by decide) (fun K hK => ?_)
 refine goes_ Try.func26 (by kernel_rfl) rfl #[.agg #[.slice Ao11 p.length co12], .agg #[.int .i64 ea, .int .i64 eb, .int .i64 ec, .int .i64 ed, .int .i64 ee]] (by rfl) rfl rfl (by (try simp only [List.map_toArray, List.map_cons, List.map_nil]); first | done | rfl) ?_
 with_reducible refine (spec_ExprComp.calls k _ _ p ea eb ec ed ee g _ ?side1 ?side2 E3.out).mono ?_
 (case side1 => exact HO10.out.C)
 (case side2 => exact HO10.out.cap)
 rintro e w14 ⟨v_, rfl, ho, hb⟩
 refine ⟨_, rfl, ?_⟩
 have n0_ := Aside0.mk (blk_below BK1.out hb)
 have n1_ := Aside0.mk (blk_below BK4.out hb)
 have n2_ := Aside0.mk (SW.below HO10.out hb)
 have n3_ := Aside0.mk (below_step HB.out hb)
 have n4_ := Aside0.mk (RW.of ho hb HB.out)
 have n5_ := Aside0.mk (blk_lt BK1.out)
 have n6_ := Aside0.mk (blk_lt BK4.out)
 have n7_ := Aside0.mk (HO10.out.le)
 clear BK1 BK4 HO10 HB
 have BK1 := n0_
 have BK4 := n1_
 have HO10 := n2_
 have HB := n3_
 have HO15 := n4_
 have OR_BK1_HO15 := n5_
 have OR_BK4_HO15 := n6_
 have OR_HO10_HO15 := n7_
 clear n0_ n1_ n2_ n3_ n4_ n5_ n6_ n7_
 clear hb ho
 obtain ⟨Ao16, co17, eo_⟩ := HO15.out.slice
 subst eo_
 refine hK.out _ _ ⟨(blk_cell BK1.out 0).trans rfl, (blk_cell BK4.out 0).trans rfl, (blk_cell BK4.out 1).trans rfl, (blk_cell BK4.out 2).trans rfl, (blk_cell BK4.out 3).trans rfl, (blk_cell BK4.out 4).trans rfl⟩ (fun hHeld => ?_)
 clear hK K
 refine norm_ (a' := ?_) ?_ ?_
 rotate_left
 ·show Act.put _ (some 22) _ = _
  simp only [Act.put, List.setIfInBounds_toArray, List.set_cons_zero, List.set_cons_succ, i64_w, i32_w]
  rfl
 refine pure_ (i := 5) (N := some 6) (v := ?_) (a' := ?_) #[true, true, true, true, true, true] rfl rfl (by kernel_rfl) (fun _ _ _ h => h) (Or.inl ⟨by rfl, ?_⟩) ?_ ?_
 rotate_left
 ·intro w'
  go_simp
  with_reducible rfl
 rotate_left
 ·simp only [Act.put, List.setIfInBounds_toArray, List.set_cons_zero, List.set_cons_succ, i64_w, i32_w]
  rfl
 refine done_ (by kernel_rfl) ?_
 have hz_BK1_0 : w14.cell? ⟨gb2, 0, none⟩ = some (.slice A0 l.length c0) := (blk_cell BK1.out 0).trans rfl
 have hz_BK4_0 : w14.cell? ⟨gb5, 0, none⟩ = some (.int .i64 x1a) := (blk_cell BK4.out 0).trans rfl
 have hz_BK4_1 : w14.cell? ⟨gb5, 1, none⟩ = some (.int .i64 x1b) := (blk_cell BK4.out 1).trans rfl
 have hz_BK4_2 : w14.cell? ⟨gb5, 2, none⟩ = some (.int .i64 x1c) := (blk_cell BK4.out 2).trans rfl
 have hz_BK4_3 : w14.cell? ⟨gb5, 3, none⟩ = some (.int .i64 x1d) := (blk_cell BK4.out 3).trans rfl
 have hz_BK4_4 : w14.cell? ⟨gb5, 4, none⟩ = some (.int .i64 x1e) := (blk_cell BK4.out 4).trans rfl
 go_wp2_with (first | ((with_reducible refine gate_callee (f := 17) rfl ?_); refine goesL_ (some 24) rfl rfl Try.func17 (by kernel_rfl) rfl #[.agg #[.slice A0 l.length c0]] rfl (by (try simp only [List.map_toArray, List.map_cons, List.map_nil]); first | done | rfl) ?_; (with_reducible refine (laws_toProg.calls k _ _ l p _ ?side1 ?side2 E1.out).mono ?_); (case side1 => exact Kd.C_below HR0.out HB.out); (case side2 => exact HC0.out); rintro e w18 ⟨v_, rfl, ho, hb⟩; refine ⟨_, rfl, ?_⟩; have n0_ := Aside0.mk (blk_below BK1.out hb); have n1_ := Aside0.mk (blk_below BK4.out hb); have n2_ := Aside0.mk (SW.below HO10.out hb); have n3_ := Aside0.mk (RW.below HO15.out hb); have n4_ := Aside0.mk (below_step HB.out hb); have n5_ := Aside0.mk (SW.of ho hb HB.out); have n6_ := Aside0.mk (blk_lt BK1.out); have n7_ := Aside0.mk (blk_lt BK4.out); have n8_ := Aside0.mk (HO10.out.le); have n9_ := Aside0.mk (HO15.out.le); clear BK1 BK4 HO10 HO15 HB; have BK1 := n0_; have BK4 := n1_; have HO10 := n2_; have HO15 := n3_; have HB := n4_; have HO19 := n5_; have OR_BK1_HO19 := n6_; have OR_BK4_HO19 := n7_; have OR_HO10_HO19 := n8_; have OR_HO15_HO19 := n9_; clear n0_ n1_ n2_ n3_ n4_ n5_ n6_ n7_ n8_ n9_; clear hb ho; obtain ⟨Ao20, co21, eo_⟩ := HO19.out.slice; subst eo_; (try clear hz_BK1_0 hz_BK4_0 hz_BK4_1 hz_BK4_2 hz_BK4_3 hz_BK4_4); have hz_BK1_0 : w18.cell? ⟨gb2, 0, none⟩ = some (.slice A0 l.length c0) := (blk_cell BK1.out 0).trans rfl; have hz_BK4_0 : w18.cell? ⟨gb5, 0, none⟩ = some (.int .i64 x1a) := (blk_cell BK4.out 0).trans rfl; have hz_BK4_1 : w18.cell? ⟨gb5, 1, none⟩ = some (.int .i64 x1b) := (blk_cell BK4.out 1).trans rfl; have hz_BK4_2 : w18.cell? ⟨gb5, 2, none⟩ = some (.int .i64 x1c) := (blk_cell BK4.out 2).trans rfl; have hz_BK4_3 : w18.cell? ⟨gb5, 3, none⟩ = some (.int .i64 x1d) := (blk_cell BK4.out 3).trans rfl; have hz_BK4_4 : w18.cell? ⟨gb5, 4, none⟩ = some (.int .i64 x1e) := (blk_cell BK4.out 4).trans rfl) | ((with_reducible refine gate_dst (N := 7) rfl ?_); refine box_event ?hg (N := 7) ?hd (cs := #[.slice none 0 0]) (t := 29) ?hr ?_; (case hd => rfl); (case hg => rfl); (case hr => first | (go_simp; done) | (go_simp; rfl)); intro gb23 hg w24 hbox hb; have n0_ := Aside0.mk (blk_below BK1.out hb); have n1_ := Aside0.mk (blk_below BK4.out hb); have n2_ := Aside0.mk (SW.below HO10.out hb); have n3_ := Aside0.mk (RW.below HO15.out hb); have n4_ := Aside0.mk (SW.below HO19.out hb); have n5_ := Aside0.mk (below_step HB.out hb); have n6_ := Aside0.mk (hbox); have n7_ := Aside0.mk ((by rw [hg]; exact HB.out.size : w.heap.size ≤ gb23)); have n8_ := Aside0.mk ((by rw [hg]; exact blk_lt BK1.out : gb2 < gb23)); have n9_ := Aside0.mk ((by rw [hg]; exact blk_lt BK4.out : gb5 < gb23)); have n10_ := Aside0.mk ((by rw [hg]; exact HO10.out.le : w9.heap.size ≤ gb23)); have n11_ := Aside0.mk ((by rw [hg]; exact HO15.out.le : w14.heap.size ≤ gb23)); have n12_ := Aside0.mk ((by rw [hg]; exact HO19.out.le : w18.heap.size ≤ gb23)); clear BK1 BK4 HO10 HO15 HO19 HB; have BK1 := n0_; have BK4 := n1_; have HO10 := n2_; have HO15 := n3_; have HO19 := n4_; have HB := n5_; have BK22 := n6_; have GEBK22 := n7_; have OR_BK1_BK22 := n8_; have OR_BK4_BK22 := n9_; have OR_HO10_BK22 := n10_; have OR_HO15_BK22 := n11_; have OR_HO19_BK22 := n12_; clear n0_ n1_ n2_ n3_ n4_ n5_ n6_ n7_ n8_ n9_ n10_ n11_ n12_; clear hb hbox hg; (try clear hz_BK1_0 hz_BK4_0 hz_BK4_1 hz_BK4_2 hz_BK4_3 hz_BK4_4); have hz_BK1_0 : w24.cell? ⟨gb2, 0, none⟩ = some (.slice A0 l.length c0) := (blk_cell BK1.out 0).trans rfl; have hz_BK4_0 : w24.cell? ⟨gb5, 0, none⟩ = some (.int .i64 x1a) := (blk_cell BK4.out 0).trans rfl; have hz_BK4_1 : w24.cell? ⟨gb5, 1, none⟩ = some (.int .i64 x1b) := (blk_cell BK4.out 1).trans rfl; have hz_BK4_2 : w24.cell? ⟨gb5, 2, none⟩ = some (.int .i64 x1c) := (blk_cell BK4.out 2).trans rfl; have hz_BK4_3 : w24.cell? ⟨gb5, 3, none⟩ = some (.int .i64 x1d) := (blk_cell BK4.out 3).trans rfl; have hz_BK4_4 : w24.cell? ⟨gb5, 4, none⟩ = some (.int .i64 x1e) := (blk_cell BK4.out 4).trans rfl; have hz_BK22_0 : w24.cell? ⟨gb23, 0, none⟩ = some (.slice none 0 0) := (blk_cell BK22.out 0).trans rfl; have hfz_ := blk_frozen BK22.out 0) | ((with_reducible refine gate_store (t := 29) (p := 7) rfl ?_); refine store_event (t := 29) (p := 7) (v := ?vo_w25) (w1 := (w24.setCell ⟨gb23, 0, none⟩ (.slice Ao20 p.length co21))) ?hg ?ho ?hn ?hr ?_; (case ho => rfl); (case hg => rfl); (case hn => rfl); (case hr => first | (go_simp; done) | (go_simp; rfl)); intro w25 hw; have n0_ := Aside0.mk (blk_old BK1.out (kept_set hw) OR_BK1_BK22.out); have n1_ := Aside0.mk (blk_old BK4.out (kept_set hw) OR_BK4_BK22.out); have n2_ := Aside0.mk (HO10.out.keep (kept_set hw) (.inl OR_HO10_BK22.out)); have n3_ := Aside0.mk (HO15.out.keep (kept_set hw) (.inl OR_HO15_BK22.out)); have n4_ := Aside0.mk (HO19.out.keep (kept_set hw) (.inl OR_HO19_BK22.out)); have n5_ := Aside0.mk ((by rw [hw]; exact blk_put (cs := #[.slice none 0 0]) BK22.out 0 _ rfl : w25.heap[gb23]? = some (.cells #[.slice Ao20 p.length co21] 29 (0, 0)))); have n6_ := Aside0.mk (below_put hw HB.out GEBK22.out); clear hw hfz_ BK1 BK4 HO10 HO15 HO19 BK22 HB; have BK1 := n0_; have BK4 := n1_; have HO10 := n2_; have HO15 := n3_; have HO19 := n4_; have BK22 := n5_; have HB := n6_; clear n0_ n1_ n2_ n3_ n4_ n5_ n6_; (try clear hz_BK1_0 hz_BK4_0 hz_BK4_1 hz_BK4_2 hz_BK4_3 hz_BK4_4 hz_BK22_0); have hz_BK1_0 : w25.cell? ⟨gb2, 0, none⟩ = some (.slice A0 l.length c0) := (blk_cell BK1.out 0).trans rfl; have hz_BK4_0 : w25.cell? ⟨gb5, 0, none⟩ = some (.int .i64 x1a) := (blk_cell BK4.out 0).trans rfl; have hz_BK4_1 : w25.cell? ⟨gb5, 1, none⟩ = some (.int .i64 x1b) := (blk_cell BK4.out 1).trans rfl; have hz_BK4_2 : w25.cell? ⟨gb5, 2, none⟩ = some (.int .i64 x1c) := (blk_cell BK4.out 2).trans rfl; have hz_BK4_3 : w25.cell? ⟨gb5, 3, none⟩ = some (.int .i64 x1d) := (blk_cell BK4.out 3).trans rfl; have hz_BK4_4 : w25.cell? ⟨gb5, 4, none⟩ = some (.int .i64 x1e) := (blk_cell BK4.out 4).trans rfl; have hz_BK22_0 : w25.cell? ⟨gb23, 0, none⟩ = some (.slice Ao20 p.length co21) := (blk_cell BK22.out 0).trans rfl))
 have n0_ := Aside0.mk (blk_below BK1.out (below_drew (Below.refl _ _)))
 have n1_ := Aside0.mk (blk_below BK4.out (below_drew (Below.refl _ _)))
 have n2_ := Aside0.mk (SW.below HO10.out (below_drew (Below.refl _ _)))
 have n3_ := Aside0.mk (RW.below HO15.out (below_drew (Below.refl _ _)))
 have n4_ := Aside0.mk (SW.below HO19.out (below_drew (Below.refl _ _)))
 have n5_ := Aside0.mk (blk_below BK22.out (below_drew (Below.refl _ _)))
 have n6_ := Aside0.mk (below_step HB.out (below_drew (Below.refl _ _)))
 clear BK1 BK4 HO10 HO15 HO19 BK22 HB
 have BK1 := n0_
 have BK4 := n1_
 have HO10 := n2_
 have HO15 := n3_
 have HO19 := n4_
 have BK22 := n5_
 have HB := n6_
 clear n0_ n1_ n2_ n3_ n4_ n5_ n6_
 refine start_ (n := 5) (S := fun w' => w'.cell? ⟨gb23, 0, none⟩ = some (.slice Ao20 p.length co21) ∧ w'.cell? ⟨gb5, 0, none⟩ = some (.int .i64 x1a) ∧ w'.cell? ⟨gb5, 1, none⟩ = some (.int .i64 x1b) ∧ w'.cell? ⟨gb5, 2, none⟩ = some (.int .i64 x1c) ∧ w'.cell? ⟨gb5, 3, none⟩ = some (.int .i64 x1d) ∧ w'.cell? ⟨gb5, 4, none⟩ = some (.int .i64 x1e)) (ds := []) #[false, false, false, false, false] (by kernel_rfl) rfl rfl ⟨(blk_cell BK22.out 0).trans rfl, (blk_cell BK4.out 0).trans rfl, (blk_cell BK4.out 1).trans rfl, (blk_cell BK4.out 2).trans rfl, (blk_cell BK4.out 3).trans rfl, (blk_cell BK4.out 4).trans rfl⟩ (fun hHeld => ?_)
 (try clear hz_BK1_0 hz_BK4_0 hz_BK4_1 hz_BK4_2 hz_BK4_3 hz_BK4_4 hz_BK22_0)
 generalize w25.drew = w26 at BK1 BK4 HO10 HO15 HO19 BK22 HB hHeld ⊢
 refine take_ (i := 0) (N := some 25) (v := ?_) (a' := ?_) #[true, false, false, false, false] rfl rfl (by kernel_rfl) (fun _ _ _ h => h) (Or.inl ⟨by rfl, ?_⟩) hHeld ?_ ?_
 rotate_left
 ·rintro w' ⟨s0, s1, s2, s3, s4, s5⟩
  go_simp
  with_reducible rfl
 rotate_left
 ·simp only [Act.put, List.setIfInBounds_toArray, List.set_cons_zero, List.set_cons_succ, i64_w, i32_w]
  rfl
 refine take_ (i := 1) (N := some 26) (v := ?_) (a' := ?_) #[true, true, false, false, false] rfl rfl (by kernel_rfl) (fun _ _ _ h => h) (Or.inl ⟨by rfl, ?_⟩) hHeld ?_ ?_
 rotate_left
 ·rintro w' ⟨s0, s1, s2, s3, s4, s5⟩
  go_simp
  with_reducible rfl
 rotate_left
 ·simp only [Act.put, List.setIfInBounds_toArray, List.set_cons_zero, List.set_cons_succ, i64_w, i32_w]
  rfl
 refine one_ (i := 2) (N := some 27) #[true, true, true, false, false] rfl rfl (by kernel_rfl) (by decide) (fun K hK => ?_)
 refine goes_ Try.func27 (by kernel_rfl) rfl #[.agg #[.int .i64 x1a, .int .i64 x1b, .int .i64 x1c, .int .i64 x1d, .int .i64 x1e]] (by rfl) rfl rfl (by (try simp only [List.map_toArray, List.map_cons, List.map_nil]); first | done | rfl) ?_
 with_reducible refine (laws_toExpr.calls x1a x1b x1c x1d x1e ea eb ec ed ee _ E2.out).mono ?_
 rintro e w27 ⟨rfl, hb⟩
 refine ⟨_, rfl, ?_⟩
 have n0_ := Aside0.mk (blk_below BK1.out hb)
 have n1_ := Aside0.mk (blk_below BK4.out hb)
 have n2_ := Aside0.mk (SW.below HO10.out hb)
 have n3_ := Aside0.mk (RW.below HO15.out hb)
 have n4_ := Aside0.mk (SW.below HO19.out hb)
 have n5_ := Aside0.mk (blk_below BK22.out hb)
 have n6_ := Aside0.mk (below_step HB.out hb)
 clear BK1 BK4 HO10 HO15 HO19 BK22 HB
 have BK1 := n0_
 have BK4 := n1_
 have HO10 := n2_
 have HO15 := n3_
 have HO19 := n4_
 have BK22 := n5_
 have HB := n6_
 clear n0_ n1_ n2_ n3_ n4_ n5_ n6_
 clear hb
 refine hK.out _ _ ⟨(blk_cell BK22.out 0).trans rfl, (blk_cell BK4.out 0).trans rfl, (blk_cell BK4.out 1).trans rfl, (blk_cell BK4.out 2).trans rfl, (blk_cell BK4.out 3).trans rfl, (blk_cell BK4.out 4).trans rfl⟩ (fun hHeld => ?_)
 clear hK K
 refine norm_ (a' := ?_) ?_ ?_
 rotate_left
 ·show Act.put _ (some 27) _ = _
  simp only [Act.put, List.setIfInBounds_toArray, List.set_cons_zero, List.set_cons_succ, i64_w, i32_w]
  rfl
 refine one_ (i := 3) (N := some 28) #[true, true, true, true, false] rfl rfl (by kernel_rfl) (by decide) (fun K hK => ?_)
 refine goes_ Try.func28 (by kernel_rfl) rfl #[.agg #[.slice Ao20 p.length co21], .agg #[.int .i64 ea, .int .i64 eb, .int .i64 ec, .int .i64 ed, .int .i64 ee]] (by rfl) rfl rfl (by (try simp only [List.map_toArray, List.map_cons, List.map_nil]); first | done | rfl) ?_
 with_reducible refine (impl_ExprComp.calls _ _ p ea eb ec ed ee g _ ?side1 ?side2 E4.out).mono ?_
 (case side1 => exact HO19.out.C)
 (case side2 => exact HO19.out.cap)
 rintro e w28 ⟨v_, rfl, ho, hb⟩
 refine ⟨_, rfl, ?_⟩
 have n0_ := Aside0.mk (blk_below BK1.out hb)
 have n1_ := Aside0.mk (blk_below BK4.out hb)
 have n2_ := Aside0.mk (SW.below HO10.out hb)
 have n3_ := Aside0.mk (RW.below HO15.out hb)
 have n4_ := Aside0.mk (SW.below HO19.out hb)
 have n5_ := Aside0.mk (blk_below BK22.out hb)
 have n6_ := Aside0.mk (below_step HB.out hb)
 have n7_ := Aside0.mk (RW.of ho hb HB.out)
 have n8_ := Aside0.mk (blk_lt BK1.out)
 have n9_ := Aside0.mk (blk_lt BK4.out)
 have n10_ := Aside0.mk (HO10.out.le)
 have n11_ := Aside0.mk (HO15.out.le)
 have n12_ := Aside0.mk (HO19.out.le)
 have n13_ := Aside0.mk (blk_lt BK22.out)
 clear BK1 BK4 HO10 HO15 HO19 BK22 HB
 have BK1 := n0_
 have BK4 := n1_
 have HO10 := n2_
 have HO15 := n3_
 have HO19 := n4_
 have BK22 := n5_
 have HB := n6_
 have HO29 := n7_
 have OR_BK1_HO29 := n8_
 have OR_BK4_HO29 := n9_
 have OR_HO10_HO29 := n10_
 have OR_HO15_HO29 := n11_
 have OR_HO19_HO29 := n12_
 have OR_BK22_HO29 := n13_
 clear n0_ n1_ n2_ n3_ n4_ n5_ n6_ n7_ n8_ n9_ n10_ n11_ n12_ n13_
 clear hb ho
 obtain ⟨Ao30, co31, eo_⟩ := HO29.out.slice
 subst eo_
 refine hK.out _ _ ⟨(blk_cell BK22.out 0).trans rfl, (blk_cell BK4.out 0).trans rfl, (blk_cell BK4.out 1).trans rfl, (blk_cell BK4.out 2).trans rfl, (blk_cell BK4.out 3).trans rfl, (blk_cell BK4.out 4).trans rfl⟩ (fun hHeld => ?_)
 clear hK K
 refine norm_ (a' := ?_) ?_ ?_
 rotate_left
 ·show Act.put _ (some 28) _ = _
  simp only [Act.put, List.setIfInBounds_toArray, List.set_cons_zero, List.set_cons_succ, i64_w, i32_w]
  rfl
 refine pure_ (i := 4) (N := some 8) (v := ?_) (a' := ?_) #[true, true, true, true, true] rfl rfl (by kernel_rfl) (fun _ _ _ h => h) (Or.inl ⟨by rfl, ?_⟩) ?_ ?_
 rotate_left
 ·intro w'
  go_simp
  with_reducible rfl
 rotate_left
 ·simp only [Act.put, List.setIfInBounds_toArray, List.set_cons_zero, List.set_cons_succ, i64_w, i32_w]
  rfl
 refine done_ (by kernel_rfl) ?_
 have hz_BK1_0 : w28.cell? ⟨gb2, 0, none⟩ = some (.slice A0 l.length c0) := (blk_cell BK1.out 0).trans rfl
 have hz_BK4_0 : w28.cell? ⟨gb5, 0, none⟩ = some (.int .i64 x1a) := (blk_cell BK4.out 0).trans rfl
 have hz_BK4_1 : w28.cell? ⟨gb5, 1, none⟩ = some (.int .i64 x1b) := (blk_cell BK4.out 1).trans rfl
 have hz_BK4_2 : w28.cell? ⟨gb5, 2, none⟩ = some (.int .i64 x1c) := (blk_cell BK4.out 2).trans rfl
 have hz_BK4_3 : w28.cell? ⟨gb5, 3, none⟩ = some (.int .i64 x1d) := (blk_cell BK4.out 3).trans rfl
 have hz_BK4_4 : w28.cell? ⟨gb5, 4, none⟩ = some (.int .i64 x1e) := (blk_cell BK4.out 4).trans rfl
 have hz_BK22_0 : w28.cell? ⟨gb23, 0, none⟩ = some (.slice Ao20 p.length co21) := (blk_cell BK22.out 0).trans rfl
 go_wp2_with (first | ((with_reducible refine gate_callee (f := 22) rfl ?_); refine goesL_ (some 31) rfl rfl Try.func22 (by kernel_rfl) rfl #[.slice Ao30 g.length co31, .slice Ao16 g.length co17] rfl (by (try simp only [List.map_toArray, List.map_cons, List.map_nil]); first | done | rfl) ?_; (with_reducible refine (laws_eqBoolS.calls k _ _ g _ _ g true _ ?side1 ?side2 ?side3 ?side4 E5.out).mono ?_); (case side1 => exact HO29.out.C); (case side2 => exact HO29.out.cap); (case side3 => exact HO15.out.C); (case side4 => exact HO15.out.cap); rintro e w32 ⟨rfl, hb⟩; refine ⟨_, rfl, ?_⟩; have n0_ := Aside0.mk (blk_below BK1.out hb.below); have n1_ := Aside0.mk (blk_below BK4.out hb.below); have n2_ := Aside0.mk (SW.below HO10.out hb.below); have n3_ := Aside0.mk (RW.below HO15.out hb.below); have n4_ := Aside0.mk (SW.below HO19.out hb.below); have n5_ := Aside0.mk (blk_below BK22.out hb.below); have n6_ := Aside0.mk (RW.below HO29.out hb.below); have n7_ := Aside0.mk (below_step HB.out hb.below); clear BK1 BK4 HO10 HO15 HO19 BK22 HO29 HB; have BK1 := n0_; have BK4 := n1_; have HO10 := n2_; have HO15 := n3_; have HO19 := n4_; have BK22 := n5_; have HO29 := n6_; have HB := n7_; clear n0_ n1_ n2_ n3_ n4_ n5_ n6_ n7_; clear hb; (try clear hz_BK1_0 hz_BK4_0 hz_BK4_1 hz_BK4_2 hz_BK4_3 hz_BK4_4 hz_BK22_0); have hz_BK1_0 : w32.cell? ⟨gb2, 0, none⟩ = some (.slice A0 l.length c0) := (blk_cell BK1.out 0).trans rfl; have hz_BK4_0 : w32.cell? ⟨gb5, 0, none⟩ = some (.int .i64 x1a) := (blk_cell BK4.out 0).trans rfl; have hz_BK4_1 : w32.cell? ⟨gb5, 1, none⟩ = some (.int .i64 x1b) := (blk_cell BK4.out 1).trans rfl; have hz_BK4_2 : w32.cell? ⟨gb5, 2, none⟩ = some (.int .i64 x1c) := (blk_cell BK4.out 2).trans rfl; have hz_BK4_3 : w32.cell? ⟨gb5, 3, none⟩ = some (.int .i64 x1d) := (blk_cell BK4.out 3).trans rfl; have hz_BK4_4 : w32.cell? ⟨gb5, 4, none⟩ = some (.int .i64 x1e) := (blk_cell BK4.out 4).trans rfl; have hz_BK22_0 : w32.cell? ⟨gb23, 0, none⟩ = some (.slice Ao20 p.length co21) := (blk_cell BK22.out 0).trans rfl))
 have n0_ := Aside0.mk (blk_below BK1.out (below_drew (Below.refl _ _)))
 have n1_ := Aside0.mk (blk_below BK4.out (below_drew (Below.refl _ _)))
 have n2_ := Aside0.mk (SW.below HO10.out (below_drew (Below.refl _ _)))
 have n3_ := Aside0.mk (RW.below HO15.out (below_drew (Below.refl _ _)))
 have n4_ := Aside0.mk (SW.below HO19.out (below_drew (Below.refl _ _)))
 have n5_ := Aside0.mk (blk_below BK22.out (below_drew (Below.refl _ _)))
 have n6_ := Aside0.mk (RW.below HO29.out (below_drew (Below.refl _ _)))
 have n7_ := Aside0.mk (below_step HB.out (below_drew (Below.refl _ _)))
 clear BK1 BK4 HO10 HO15 HO19 BK22 HO29 HB
 have BK1 := n0_
 have BK4 := n1_
 have HO10 := n2_
 have HO15 := n3_
 have HO19 := n4_
 have BK22 := n5_
 have HO29 := n6_
 have HB := n7_
 clear n0_ n1_ n2_ n3_ n4_ n5_ n6_ n7_
 refine start_ (n := 5) (S := fun w' => w'.cell? ⟨gb23, 0, none⟩ = some (.slice Ao20 p.length co21) ∧ w'.cell? ⟨gb2, 0, none⟩ = some (.slice A0 l.length c0)) (ds := []) #[false, false, false, false, false] (by kernel_rfl) rfl rfl ⟨(blk_cell BK22.out 0).trans rfl, (blk_cell BK1.out 0).trans rfl⟩ (fun hHeld => ?_)
 (try clear hz_BK1_0 hz_BK4_0 hz_BK4_1 hz_BK4_2 hz_BK4_3 hz_BK4_4 hz_BK22_0)
 generalize w32.drew = w33 at BK1 BK4 HO10 HO15 HO19 BK22 HO29 HB hHeld ⊢
 refine take_ (i := 0) (N := some 33) (v := ?_) (a' := ?_) #[true, false, false, false, false] rfl rfl (by kernel_rfl) (fun _ _ _ h => h) (Or.inl ⟨by rfl, ?_⟩) hHeld ?_ ?_
 rotate_left
 ·rintro w' ⟨s0, s1⟩
  go_simp
  with_reducible rfl
 rotate_left
 ·simp only [Act.put, List.setIfInBounds_toArray, List.set_cons_zero, List.set_cons_succ, i64_w, i32_w]
  rfl
 refine take_ (i := 1) (N := some 34) (v := ?_) (a' := ?_) #[true, true, false, false, false] rfl rfl (by kernel_rfl) (fun _ _ _ h => h) (Or.inl ⟨by rfl, ?_⟩) hHeld ?_ ?_
 rotate_left
 ·rintro w' ⟨s0, s1⟩
  go_simp
  with_reducible rfl
 rotate_left
 ·simp only [Act.put, List.setIfInBounds_toArray, List.set_cons_zero, List.set_cons_succ, i64_w, i32_w]
  rfl
 refine one_ (i := 2) (N := some 35) #[true, true, true, false, false] rfl rfl (by kernel_rfl) (by decide) (fun K hK => ?_)
 refine goes_ Try.func17 (by kernel_rfl) rfl #[.agg #[.slice A0 l.length c0]] (by rfl) rfl rfl (by (try simp only [List.map_toArray, List.map_cons, List.map_nil]); first | done | rfl) ?_
 with_reducible refine (laws_toProg.calls k _ _ l p _ ?side1 ?side2 E1.out).mono ?_
 (case side1 => exact Kd.C_below HR0.out HB.out)
 (case side2 => exact HC0.out)
 rintro e w34 ⟨v_, rfl, ho, hb⟩
 refine ⟨_, rfl, ?_⟩
 have n0_ := Aside0.mk (blk_below BK1.out hb)
 have n1_ := Aside0.mk (blk_below BK4.out hb)
 have n2_ := Aside0.mk (SW.below HO10.out hb)
 have n3_ := Aside0.mk (RW.below HO15.out hb)
 have n4_ := Aside0.mk (SW.below HO19.out hb)
 have n5_ := Aside0.mk (blk_below BK22.out hb)
 have n6_ := Aside0.mk (RW.below HO29.out hb)
 have n7_ := Aside0.mk (below_step HB.out hb)
 have n8_ := Aside0.mk (SW.of ho hb HB.out)
 have n9_ := Aside0.mk (blk_lt BK1.out)
 have n10_ := Aside0.mk (blk_lt BK4.out)
 have n11_ := Aside0.mk (HO10.out.le)
 have n12_ := Aside0.mk (HO15.out.le)
 have n13_ := Aside0.mk (HO19.out.le)
 have n14_ := Aside0.mk (blk_lt BK22.out)
 have n15_ := Aside0.mk (HO29.out.le)
 clear BK1 BK4 HO10 HO15 HO19 BK22 HO29 HB
 have BK1 := n0_
 have BK4 := n1_
 have HO10 := n2_
 have HO15 := n3_
 have HO19 := n4_
 have BK22 := n5_
 have HO29 := n6_
 have HB := n7_
 have HO35 := n8_
 have OR_BK1_HO35 := n9_
 have OR_BK4_HO35 := n10_
 have OR_HO10_HO35 := n11_
 have OR_HO15_HO35 := n12_
 have OR_HO19_HO35 := n13_
 have OR_BK22_HO35 := n14_
 have OR_HO29_HO35 := n15_
 clear n0_ n1_ n2_ n3_ n4_ n5_ n6_ n7_ n8_ n9_ n10_ n11_ n12_ n13_ n14_ n15_
 clear hb ho
 obtain ⟨Ao36, co37, eo_⟩ := HO35.out.slice
 subst eo_
 refine hK.out _ _ ⟨(blk_cell BK22.out 0).trans rfl, (blk_cell BK1.out 0).trans rfl⟩ (fun hHeld => ?_)
 clear hK K
 refine norm_ (a' := ?_) ?_ ?_
 rotate_left
 ·show Act.put _ (some 35) _ = _
  simp only [Act.put, List.setIfInBounds_toArray, List.set_cons_zero, List.set_cons_succ, i64_w, i32_w]
  rfl
 refine one_ (i := 3) (N := some 36) #[true, true, true, true, false] rfl rfl (by kernel_rfl) (by decide) (fun K hK => ?_)
 refine goes_ Try.func19 (by kernel_rfl) rfl #[.agg #[.slice Ao20 p.length co21], .agg #[.slice Ao36 p.length co37]] (by rfl) rfl rfl (by (try simp only [List.map_toArray, List.map_cons, List.map_nil]); first | done | rfl) ?_
 with_reducible refine (laws_eqProg.calls k _ _ p _ _ p true _ ?side1 ?side2 ?side3 ?side4 E6.out).mono ?_
 (case side1 => exact HO19.out.C)
 (case side2 => exact HO19.out.cap)
 (case side3 => exact HO35.out.C)
 (case side4 => exact HO35.out.cap)
 rintro e w38 ⟨rfl, hb⟩
 refine ⟨_, rfl, ?_⟩
 have n0_ := Aside0.mk (blk_below BK1.out hb)
 have n1_ := Aside0.mk (blk_below BK4.out hb)
 have n2_ := Aside0.mk (SW.below HO10.out hb)
 have n3_ := Aside0.mk (RW.below HO15.out hb)
 have n4_ := Aside0.mk (SW.below HO19.out hb)
 have n5_ := Aside0.mk (blk_below BK22.out hb)
 have n6_ := Aside0.mk (RW.below HO29.out hb)
 have n7_ := Aside0.mk (SW.below HO35.out hb)
 have n8_ := Aside0.mk (below_step HB.out hb)
 clear BK1 BK4 HO10 HO15 HO19 BK22 HO29 HO35 HB
 have BK1 := n0_
 have BK4 := n1_
 have HO10 := n2_
 have HO15 := n3_
 have HO19 := n4_
 have BK22 := n5_
 have HO29 := n6_
 have HO35 := n7_
 have HB := n8_
 clear n0_ n1_ n2_ n3_ n4_ n5_ n6_ n7_ n8_
 clear hb
 refine hK.out _ _ ⟨(blk_cell BK22.out 0).trans rfl, (blk_cell BK1.out 0).trans rfl⟩ (fun hHeld => ?_)
 clear hK K
 refine norm_ (a' := ?_) ?_ ?_
 rotate_left
 ·show Act.put _ (some 36) _ = _
  simp only [Act.put, List.setIfInBounds_toArray, List.set_cons_zero, List.set_cons_succ, i64_w, i32_w]
  rfl
 refine pure_ (i := 4) (N := some 37) (v := ?_) (a' := ?_) #[true, true, true, true, true] rfl rfl (by kernel_rfl) (fun _ _ _ h => h) (Or.inl ⟨by rfl, ?_⟩) ?_ ?_
 rotate_left
 ·intro w'
  go_simp
  with_reducible rfl
 rotate_left
 ·simp only [Act.put, List.setIfInBounds_toArray, List.set_cons_zero, List.set_cons_succ, i64_w, i32_w]
  rfl
 refine done_ (by kernel_rfl) ?_
 have hz_BK1_0 : w38.cell? ⟨gb2, 0, none⟩ = some (.slice A0 l.length c0) := (blk_cell BK1.out 0).trans rfl
 have hz_BK4_0 : w38.cell? ⟨gb5, 0, none⟩ = some (.int .i64 x1a) := (blk_cell BK4.out 0).trans rfl
 have hz_BK4_1 : w38.cell? ⟨gb5, 1, none⟩ = some (.int .i64 x1b) := (blk_cell BK4.out 1).trans rfl
 have hz_BK4_2 : w38.cell? ⟨gb5, 2, none⟩ = some (.int .i64 x1c) := (blk_cell BK4.out 2).trans rfl
 have hz_BK4_3 : w38.cell? ⟨gb5, 3, none⟩ = some (.int .i64 x1d) := (blk_cell BK4.out 3).trans rfl
 have hz_BK4_4 : w38.cell? ⟨gb5, 4, none⟩ = some (.int .i64 x1e) := (blk_cell BK4.out 4).trans rfl
 have hz_BK22_0 : w38.cell? ⟨gb23, 0, none⟩ = some (.slice Ao20 p.length co21) := (blk_cell BK22.out 0).trans rfl
 go_wp2_with (first | ((with_reducible refine gate_callee (f := 23) rfl ?_); refine goesL_ (some 40) rfl rfl Try.func23 (by kernel_rfl) rfl #[.agg #[.slice Ao20 p.length co21], .int .i64 1] rfl (by (try simp only [List.map_toArray, List.map_cons, List.map_nil]); first | done | rfl) ?_; (with_reducible refine (laws_markProg.calls k (fun k => w14.heap.size ≤ k ∧ k < w18.heap.size) _ p 1 mk p' w _ ?side1 ?side2 E8.out).mono ?_); (case side1 => exact HB.out); (case side2 => exact HO19.out.row); rintro e w39 ⟨rfl, ho, hb2, hk⟩; refine ⟨_, rfl, ?_⟩; have m0_ := Aside0.mk hb2; clear HB hb2; have HB := m0_; clear m0_; have n0_ := Aside0.mk (blk_old BK1.out hk (OR_BK1_HO19.out)); have n1_ := Aside0.mk (blk_old BK4.out hk (OR_BK4_HO19.out)); have n2_ := Aside0.mk (SW.keep HO10.out hk (.inl (OR_HO10_HO19.out))); have n3_ := Aside0.mk (RW.keep HO15.out hk (.inl (OR_HO15_HO19.out))); clear BK22; have n4_ := Aside0.mk (RW.keep HO29.out hk (.inr (OR_HO19_HO29.out))); have n5_ := Aside0.mk (SW.keep HO35.out hk (.inr (OR_HO19_HO35.out))); clear BK1 BK4 HO10 HO15 HO29 HO35; have BK1 := n0_; have BK4 := n1_; have HO10 := n2_; have HO15 := n3_; have HO29 := n4_; have HO35 := n5_; clear n0_ n1_ n2_ n3_ n4_ n5_; clear hk ho HO19; (try clear hz_BK1_0 hz_BK4_0 hz_BK4_1 hz_BK4_2 hz_BK4_3 hz_BK4_4 hz_BK22_0); have hz_BK1_0 : w39.cell? ⟨gb2, 0, none⟩ = some (.slice A0 l.length c0) := (blk_cell BK1.out 0).trans rfl; have hz_BK4_0 : w39.cell? ⟨gb5, 0, none⟩ = some (.int .i64 x1a) := (blk_cell BK4.out 0).trans rfl; have hz_BK4_1 : w39.cell? ⟨gb5, 1, none⟩ = some (.int .i64 x1b) := (blk_cell BK4.out 1).trans rfl; have hz_BK4_2 : w39.cell? ⟨gb5, 2, none⟩ = some (.int .i64 x1c) := (blk_cell BK4.out 2).trans rfl; have hz_BK4_3 : w39.cell? ⟨gb5, 3, none⟩ = some (.int .i64 x1d) := (blk_cell BK4.out 3).trans rfl; have hz_BK4_4 : w39.cell? ⟨gb5, 4, none⟩ = some (.int .i64 x1e) := (blk_cell BK4.out 4).trans rfl) | (go_at_call 22; (with_reducible refine (laws_eqBoolS.calls k _ _ g _ _ g true _ ?side1 ?side2 ?side3 ?side4 E5.out).mono ?_); (case side1 => exact HO29.out.C); (case side2 => exact HO29.out.cap); (case side3 => exact HO15.out.C); (case side4 => exact HO15.out.cap); rintro e w40 ⟨rfl, hb⟩; have n0_ := Aside0.mk (blk_below BK1.out hb.below); have n1_ := Aside0.mk (blk_below BK4.out hb.below); have n2_ := Aside0.mk (SW.below HO10.out hb.below); have n3_ := Aside0.mk (RW.below HO15.out hb.below); have n4_ := Aside0.mk (RW.below HO29.out hb.below); have n5_ := Aside0.mk (SW.below HO35.out hb.below); have n6_ := Aside0.mk (below_step HB.out hb.below); clear BK1 BK4 HO10 HO15 HO29 HO35 HB; have BK1 := n0_; have BK4 := n1_; have HO10 := n2_; have HO15 := n3_; have HO29 := n4_; have HO35 := n5_; have HB := n6_; clear n0_ n1_ n2_ n3_ n4_ n5_ n6_; clear hb; (try clear hz_BK1_0 hz_BK4_0 hz_BK4_1 hz_BK4_2 hz_BK4_3 hz_BK4_4); have hz_BK1_0 : w40.cell? ⟨gb2, 0, none⟩ = some (.slice A0 l.length c0) := (blk_cell BK1.out 0).trans rfl; have hz_BK4_0 : w40.cell? ⟨gb5, 0, none⟩ = some (.int .i64 x1a) := (blk_cell BK4.out 0).trans rfl; have hz_BK4_1 : w40.cell? ⟨gb5, 1, none⟩ = some (.int .i64 x1b) := (blk_cell BK4.out 1).trans rfl; have hz_BK4_2 : w40.cell? ⟨gb5, 2, none⟩ = some (.int .i64 x1c) := (blk_cell BK4.out 2).trans rfl; have hz_BK4_3 : w40.cell? ⟨gb5, 3, none⟩ = some (.int .i64 x1d) := (blk_cell BK4.out 3).trans rfl; have hz_BK4_4 : w40.cell? ⟨gb5, 4, none⟩ = some (.int .i64 x1e) := (blk_cell BK4.out 4).trans rfl) | ((with_reducible refine gate_callee (f := 24) rfl ?_); refine goesL_ (some 51) rfl rfl Try.func24 (by kernel_rfl) rfl #[.slice Ao30 g.length co31, .int .i64 1] rfl (by (try simp only [List.map_toArray, List.map_cons, List.map_nil]); first | done | rfl) ?_; (with_reducible refine (laws_markBoolS.calls k (fun k => w27.heap.size ≤ k ∧ k < w28.heap.size) _ g 1 m g' w _ ?side1 ?side2 E9.out).mono ?_); (case side1 => exact HB.out); (case side2 => exact HO29.out.row); rintro e w41 ⟨rfl, ho, hb2, hk⟩; refine ⟨_, rfl, ?_⟩; have m0_ := Aside0.mk hb2; clear HB hb2; have HB := m0_; clear m0_; have n0_ := Aside0.mk (blk_old BK1.out hk (OR_BK1_HO29.out)); have n1_ := Aside0.mk (blk_old BK4.out hk (OR_BK4_HO29.out)); have n2_ := Aside0.mk (SW.keep HO10.out hk (.inl (OR_HO10_HO29.out))); have n3_ := Aside0.mk (RW.keep HO15.out hk (.inl (OR_HO15_HO29.out))); have n4_ := Aside0.mk (SW.keep HO35.out hk (.inr (OR_HO29_HO35.out))); clear BK1 BK4 HO10 HO15 HO35; have BK1 := n0_; have BK4 := n1_; have HO10 := n2_; have HO15 := n3_; have HO35 := n4_; clear n0_ n1_ n2_ n3_ n4_; have HO29m := Aside0.mk (RO.of ho); clear hk ho HO29; (try clear hz_BK1_0 hz_BK4_0 hz_BK4_1 hz_BK4_2 hz_BK4_3 hz_BK4_4); have hz_BK1_0 : w41.cell? ⟨gb2, 0, none⟩ = some (.slice A0 l.length c0) := (blk_cell BK1.out 0).trans rfl; have hz_BK4_0 : w41.cell? ⟨gb5, 0, none⟩ = some (.int .i64 x1a) := (blk_cell BK4.out 0).trans rfl; have hz_BK4_1 : w41.cell? ⟨gb5, 1, none⟩ = some (.int .i64 x1b) := (blk_cell BK4.out 1).trans rfl; have hz_BK4_2 : w41.cell? ⟨gb5, 2, none⟩ = some (.int .i64 x1c) := (blk_cell BK4.out 2).trans rfl; have hz_BK4_3 : w41.cell? ⟨gb5, 3, none⟩ = some (.int .i64 x1d) := (blk_cell BK4.out 3).trans rfl; have hz_BK4_4 : w41.cell? ⟨gb5, 4, none⟩ = some (.int .i64 x1e) := (blk_cell BK4.out 4).trans rfl) | ((with_reducible refine gate_callee (f := 25) rfl ?_); refine goesL_ (some 54) rfl rfl Try.func25 (by kernel_rfl) rfl #[.slice Ao30 g.length co31, .int .i64 1] rfl (by (try simp only [List.map_toArray, List.map_cons, List.map_nil]); first | done | rfl) ?_; (with_reducible refine (laws_heldBoolS_at E11.out k _ _ 1 m _ ?side1 ?side2 E10.out).mono ?_); (case side1 => exact HO29m.out.C); (case side2 => exact HO29m.out.cap); rintro e w42 ⟨rfl, hb⟩; refine ⟨_, rfl, ?_⟩; have n0_ := Aside0.mk (blk_below BK1.out hb.below); have n1_ := Aside0.mk (blk_below BK4.out hb.below); have n2_ := Aside0.mk (SW.below HO10.out hb.below); have n3_ := Aside0.mk (RW.below HO15.out hb.below); have n4_ := Aside0.mk (SW.below HO35.out hb.below); have n5_ := Aside0.mk (RO.below HO29m.out hb.below); have n6_ := Aside0.mk (below_step HB.out hb.below); clear BK1 BK4 HO10 HO15 HO35 HO29m HB; have BK1 := n0_; have BK4 := n1_; have HO10 := n2_; have HO15 := n3_; have HO35 := n4_; have HO29m := n5_; have HB := n6_; clear n0_ n1_ n2_ n3_ n4_ n5_ n6_; clear hb; (try clear hz_BK1_0 hz_BK4_0 hz_BK4_1 hz_BK4_2 hz_BK4_3 hz_BK4_4); have hz_BK1_0 : w42.cell? ⟨gb2, 0, none⟩ = some (.slice A0 l.length c0) := (blk_cell BK1.out 0).trans rfl; have hz_BK4_0 : w42.cell? ⟨gb5, 0, none⟩ = some (.int .i64 x1a) := (blk_cell BK4.out 0).trans rfl; have hz_BK4_1 : w42.cell? ⟨gb5, 1, none⟩ = some (.int .i64 x1b) := (blk_cell BK4.out 1).trans rfl; have hz_BK4_2 : w42.cell? ⟨gb5, 2, none⟩ = some (.int .i64 x1c) := (blk_cell BK4.out 2).trans rfl; have hz_BK4_3 : w42.cell? ⟨gb5, 3, none⟩ = some (.int .i64 x1d) := (blk_cell BK4.out 3).trans rfl; have hz_BK4_4 : w42.cell? ⟨gb5, 4, none⟩ = some (.int .i64 x1e) := (blk_cell BK4.out 4).trans rfl))
 have n0_ := Aside0.mk (blk_below BK1.out (below_drew (Below.refl _ _)))
 have n1_ := Aside0.mk (blk_below BK4.out (below_drew (Below.refl _ _)))
 have n2_ := Aside0.mk (SW.below HO10.out (below_drew (Below.refl _ _)))
 have n3_ := Aside0.mk (RW.below HO15.out (below_drew (Below.refl _ _)))
 have n4_ := Aside0.mk (SW.below HO35.out (below_drew (Below.refl _ _)))
 have n5_ := Aside0.mk (RO.below HO29m.out (below_drew (Below.refl _ _)))
 have n6_ := Aside0.mk (below_step HB.out (below_drew (Below.refl _ _)))
 clear BK1 BK4 HO10 HO15 HO35 HO29m HB
 have BK1 := n0_
 have BK4 := n1_
 have HO10 := n2_
 have HO15 := n3_
 have HO35 := n4_
 have HO29m := n5_
 have HB := n6_
 clear n0_ n1_ n2_ n3_ n4_ n5_ n6_
 refine start_ (n := 6) (S := fun w' => w'.cell? ⟨gb2, 0, none⟩ = some (.slice A0 l.length c0) ∧ w'.cell? ⟨gb5, 0, none⟩ = some (.int .i64 x1a) ∧ w'.cell? ⟨gb5, 1, none⟩ = some (.int .i64 x1b) ∧ w'.cell? ⟨gb5, 2, none⟩ = some (.int .i64 x1c) ∧ w'.cell? ⟨gb5, 3, none⟩ = some (.int .i64 x1d) ∧ w'.cell? ⟨gb5, 4, none⟩ = some (.int .i64 x1e)) (ds := []) #[false, false, false, false, false, false] (by kernel_rfl) rfl rfl ⟨(blk_cell BK1.out 0).trans rfl, (blk_cell BK4.out 0).trans rfl, (blk_cell BK4.out 1).trans rfl, (blk_cell BK4.out 2).trans rfl, (blk_cell BK4.out 3).trans rfl, (blk_cell BK4.out 4).trans rfl⟩ (fun hHeld => ?_)
 (try clear hz_BK1_0 hz_BK4_0 hz_BK4_1 hz_BK4_2 hz_BK4_3 hz_BK4_4)
 generalize w42.drew = w43 at BK1 BK4 HO10 HO15 HO35 HO29m HB hHeld ⊢
 refine take_ (i := 0) (N := some 60) (v := ?_) (a' := ?_) #[true, false, false, false, false, false] rfl rfl (by kernel_rfl) (fun _ _ _ h => h) (Or.inl ⟨by rfl, ?_⟩) hHeld ?_ ?_
 rotate_left
 ·rintro w' ⟨s0, s1, s2, s3, s4, s5⟩
  go_simp
  with_reducible rfl
 rotate_left
 ·simp only [Act.put, List.setIfInBounds_toArray, List.set_cons_zero, List.set_cons_succ, i64_w, i32_w]
  rfl
 refine take_ (i := 2) (N := some 62) (v := ?_) (a' := ?_) #[true, false, true, false, false, false] rfl rfl (by kernel_rfl) (fun _ _ _ h => h) (Or.inl ⟨by rfl, ?_⟩) hHeld ?_ ?_
 rotate_left
 ·rintro w' ⟨s0, s1, s2, s3, s4, s5⟩
  go_simp
  with_reducible rfl
 rotate_left
 ·simp only [Act.put, List.setIfInBounds_toArray, List.set_cons_zero, List.set_cons_succ, i64_w, i32_w]
  rfl
 refine one_ (i := 1) (N := some 61) #[true, true, true, false, false, false] rfl rfl (by kernel_rfl) (by decide) (fun K hK => ?_)
 refine goes_ Try.func17 (by kernel_rfl) rfl #[.agg #[.slice A0 l.length c0]] (by rfl) rfl rfl (by (try simp only [List.map_toArray, List.map_cons, List.map_nil]); first | done | rfl) ?_
 with_reducible refine (laws_toProg.calls k _ _ l p _ ?side1 ?side2 E1.out).mono ?_
 (case side1 => exact Kd.C_below HR0.out HB.out)
 (case side2 => exact HC0.out)
 rintro e w44 ⟨v_, rfl, ho, hb⟩
 refine ⟨_, rfl, ?_⟩
 have n0_ := Aside0.mk (blk_below BK1.out hb)
 have n1_ := Aside0.mk (blk_below BK4.out hb)
 have n2_ := Aside0.mk (SW.below HO10.out hb)
 have n3_ := Aside0.mk (RW.below HO15.out hb)
 have n4_ := Aside0.mk (SW.below HO35.out hb)
 have n5_ := Aside0.mk (RO.below HO29m.out hb)
 have n6_ := Aside0.mk (below_step HB.out hb)
 have n7_ := Aside0.mk (SW.of ho hb HB.out)
 have n8_ := Aside0.mk (blk_lt BK1.out)
 have n9_ := Aside0.mk (blk_lt BK4.out)
 have n10_ := Aside0.mk (HO10.out.le)
 have n11_ := Aside0.mk (HO15.out.le)
 have n12_ := Aside0.mk (HO35.out.le)
 clear BK1 BK4 HO10 HO15 HO35 HO29m HB
 have BK1 := n0_
 have BK4 := n1_
 have HO10 := n2_
 have HO15 := n3_
 have HO35 := n4_
 have HO29m := n5_
 have HB := n6_
 have HO45 := n7_
 have OR_BK1_HO45 := n8_
 have OR_BK4_HO45 := n9_
 have OR_HO10_HO45 := n10_
 have OR_HO15_HO45 := n11_
 have OR_HO35_HO45 := n12_
 clear n0_ n1_ n2_ n3_ n4_ n5_ n6_ n7_ n8_ n9_ n10_ n11_ n12_
 clear hb ho
 obtain ⟨Ao46, co47, eo_⟩ := HO45.out.slice
 subst eo_
 refine hK.out _ _ ⟨(blk_cell BK1.out 0).trans rfl, (blk_cell BK4.out 0).trans rfl, (blk_cell BK4.out 1).trans rfl, (blk_cell BK4.out 2).trans rfl, (blk_cell BK4.out 3).trans rfl, (blk_cell BK4.out 4).trans rfl⟩ (fun hHeld => ?_)
 clear hK K
 refine norm_ (a' := ?_) ?_ ?_
 rotate_left
 ·show Act.put _ (some 61) _ = _
  simp only [Act.put, List.setIfInBounds_toArray, List.set_cons_zero, List.set_cons_succ, i64_w, i32_w]
  rfl
 refine one_ (i := 3) (N := some 63) #[true, true, true, true, false, false] rfl rfl (by kernel_rfl) (by decide) (fun K hK => ?_)
 refine goes_ Try.func27 (by kernel_rfl) rfl #[.agg #[.int .i64 x1a, .int .i64 x1b, .int .i64 x1c, .int .i64 x1d, .int .i64 x1e]] (by rfl) rfl rfl (by (try simp only [List.map_toArray, List.map_cons, List.map_nil]); first | done | rfl) ?_
 with_reducible refine (laws_toExpr.calls x1a x1b x1c x1d x1e ea eb ec ed ee _ E2.out).mono ?_
 rintro e w48 ⟨rfl, hb⟩
 refine ⟨_, rfl, ?_⟩
 have n0_ := Aside0.mk (blk_below BK1.out hb)
 have n1_ := Aside0.mk (blk_below BK4.out hb)
 have n2_ := Aside0.mk (SW.below HO10.out hb)
 have n3_ := Aside0.mk (RW.below HO15.out hb)
 have n4_ := Aside0.mk (SW.below HO35.out hb)
 have n5_ := Aside0.mk (RO.below HO29m.out hb)
 have n6_ := Aside0.mk (SW.below HO45.out hb)
 have n7_ := Aside0.mk (below_step HB.out hb)
 clear BK1 BK4 HO10 HO15 HO35 HO29m HO45 HB
 have BK1 := n0_
 have BK4 := n1_
 have HO10 := n2_
 have HO15 := n3_
 have HO35 := n4_
 have HO29m := n5_
 have HO45 := n6_
 have HB := n7_
 clear n0_ n1_ n2_ n3_ n4_ n5_ n6_ n7_
 clear hb
 refine hK.out _ _ ⟨(blk_cell BK1.out 0).trans rfl, (blk_cell BK4.out 0).trans rfl, (blk_cell BK4.out 1).trans rfl, (blk_cell BK4.out 2).trans rfl, (blk_cell BK4.out 3).trans rfl, (blk_cell BK4.out 4).trans rfl⟩ (fun hHeld => ?_)
 clear hK K
 refine norm_ (a' := ?_) ?_ ?_
 rotate_left
 ·show Act.put _ (some 63) _ = _
  simp only [Act.put, List.setIfInBounds_toArray, List.set_cons_zero, List.set_cons_succ, i64_w, i32_w]
  rfl
 refine one_ (i := 4) (N := some 64) #[true, true, true, true, true, false] rfl rfl (by kernel_rfl) (by decide) (fun K hK => ?_)
 refine goes_ Try.func28 (by kernel_rfl) rfl #[.agg #[.slice Ao46 p.length co47], .agg #[.int .i64 ea, .int .i64 eb, .int .i64 ec, .int .i64 ed, .int .i64 ee]] (by rfl) rfl rfl (by (try simp only [List.map_toArray, List.map_cons, List.map_nil]); first | done | rfl) ?_
 with_reducible refine (impl_ExprComp.calls _ _ p ea eb ec ed ee g _ ?side1 ?side2 E4.out).mono ?_
 (case side1 => exact HO45.out.C)
 (case side2 => exact HO45.out.cap)
 rintro e w49 ⟨v_, rfl, ho, hb⟩
 refine ⟨_, rfl, ?_⟩
 have n0_ := Aside0.mk (blk_below BK1.out hb)
 have n1_ := Aside0.mk (blk_below BK4.out hb)
 have n2_ := Aside0.mk (SW.below HO10.out hb)
 have n3_ := Aside0.mk (RW.below HO15.out hb)
 have n4_ := Aside0.mk (SW.below HO35.out hb)
 have n5_ := Aside0.mk (RO.below HO29m.out hb)
 have n6_ := Aside0.mk (SW.below HO45.out hb)
 have n7_ := Aside0.mk (below_step HB.out hb)
 have n8_ := Aside0.mk (RW.of ho hb HB.out)
 have n9_ := Aside0.mk (blk_lt BK1.out)
 have n10_ := Aside0.mk (blk_lt BK4.out)
 have n11_ := Aside0.mk (HO10.out.le)
 have n12_ := Aside0.mk (HO15.out.le)
 have n13_ := Aside0.mk (HO35.out.le)
 have n14_ := Aside0.mk (HO45.out.le)
 clear BK1 BK4 HO10 HO15 HO35 HO29m HO45 HB
 have BK1 := n0_
 have BK4 := n1_
 have HO10 := n2_
 have HO15 := n3_
 have HO35 := n4_
 have HO29m := n5_
 have HO45 := n6_
 have HB := n7_
 have HO50 := n8_
 have OR_BK1_HO50 := n9_
 have OR_BK4_HO50 := n10_
 have OR_HO10_HO50 := n11_
 have OR_HO15_HO50 := n12_
 have OR_HO35_HO50 := n13_
 have OR_HO45_HO50 := n14_
 clear n0_ n1_ n2_ n3_ n4_ n5_ n6_ n7_ n8_ n9_ n10_ n11_ n12_ n13_ n14_
 clear hb ho
 obtain ⟨Ao51, co52, eo_⟩ := HO50.out.slice
 subst eo_
 refine hK.out _ _ ⟨(blk_cell BK1.out 0).trans rfl, (blk_cell BK4.out 0).trans rfl, (blk_cell BK4.out 1).trans rfl, (blk_cell BK4.out 2).trans rfl, (blk_cell BK4.out 3).trans rfl, (blk_cell BK4.out 4).trans rfl⟩ (fun hHeld => ?_)
 clear hK K
 refine norm_ (a' := ?_) ?_ ?_
 rotate_left
 ·show Act.put _ (some 64) _ = _
  simp only [Act.put, List.setIfInBounds_toArray, List.set_cons_zero, List.set_cons_succ, i64_w, i32_w]
  rfl
 refine pure_ (i := 5) (N := some 12) (v := ?_) (a' := ?_) #[true, true, true, true, true, true] rfl rfl (by kernel_rfl) (fun _ _ _ h => h) (Or.inl ⟨by rfl, ?_⟩) ?_ ?_
 rotate_left
 ·intro w'
  go_simp
  with_reducible rfl
 rotate_left
 ·simp only [Act.put, List.setIfInBounds_toArray, List.set_cons_zero, List.set_cons_succ, i64_w, i32_w]
  rfl
 refine done_ (by kernel_rfl) ?_
 have hz_BK1_0 : w49.cell? ⟨gb2, 0, none⟩ = some (.slice A0 l.length c0) := (blk_cell BK1.out 0).trans rfl
 have hz_BK4_0 : w49.cell? ⟨gb5, 0, none⟩ = some (.int .i64 x1a) := (blk_cell BK4.out 0).trans rfl
 have hz_BK4_1 : w49.cell? ⟨gb5, 1, none⟩ = some (.int .i64 x1b) := (blk_cell BK4.out 1).trans rfl
 have hz_BK4_2 : w49.cell? ⟨gb5, 2, none⟩ = some (.int .i64 x1c) := (blk_cell BK4.out 2).trans rfl
 have hz_BK4_3 : w49.cell? ⟨gb5, 3, none⟩ = some (.int .i64 x1d) := (blk_cell BK4.out 3).trans rfl
 have hz_BK4_4 : w49.cell? ⟨gb5, 4, none⟩ = some (.int .i64 x1e) := (blk_cell BK4.out 4).trans rfl
 go_wp2_with (first | ((with_reducible refine gate_callee (f := 22) rfl ?_); refine goesL_ (some 67) rfl rfl Try.func22 (by kernel_rfl) rfl #[.slice Ao51 g.length co52, .slice Ao16 g.length co17] rfl (by (try simp only [List.map_toArray, List.map_cons, List.map_nil]); first | done | rfl) ?_; (with_reducible refine (laws_eqBoolS.calls k _ _ g _ _ g true _ ?side1 ?side2 ?side3 ?side4 E5.out).mono ?_); (case side1 => exact HO50.out.C); (case side2 => exact HO50.out.cap); (case side3 => exact HO15.out.C); (case side4 => exact HO15.out.cap); rintro e w53 ⟨rfl, hb⟩; refine ⟨_, rfl, ?_⟩; have n0_ := Aside0.mk (blk_below BK1.out hb.below); have n1_ := Aside0.mk (blk_below BK4.out hb.below); have n2_ := Aside0.mk (SW.below HO10.out hb.below); have n3_ := Aside0.mk (RW.below HO15.out hb.below); have n4_ := Aside0.mk (SW.below HO35.out hb.below); have n5_ := Aside0.mk (RO.below HO29m.out hb.below); have n6_ := Aside0.mk (SW.below HO45.out hb.below); have n7_ := Aside0.mk (RW.below HO50.out hb.below); have n8_ := Aside0.mk (below_step HB.out hb.below); clear BK1 BK4 HO10 HO15 HO35 HO29m HO45 HO50 HB; have BK1 := n0_; have BK4 := n1_; have HO10 := n2_; have HO15 := n3_; have HO35 := n4_; have HO29m := n5_; have HO45 := n6_; have HO50 := n7_; have HB := n8_; clear n0_ n1_ n2_ n3_ n4_ n5_ n6_ n7_ n8_; clear hb; (try clear hz_BK1_0 hz_BK4_0 hz_BK4_1 hz_BK4_2 hz_BK4_3 hz_BK4_4); have hz_BK1_0 : w53.cell? ⟨gb2, 0, none⟩ = some (.slice A0 l.length c0) := (blk_cell BK1.out 0).trans rfl; have hz_BK4_0 : w53.cell? ⟨gb5, 0, none⟩ = some (.int .i64 x1a) := (blk_cell BK4.out 0).trans rfl; have hz_BK4_1 : w53.cell? ⟨gb5, 1, none⟩ = some (.int .i64 x1b) := (blk_cell BK4.out 1).trans rfl; have hz_BK4_2 : w53.cell? ⟨gb5, 2, none⟩ = some (.int .i64 x1c) := (blk_cell BK4.out 2).trans rfl; have hz_BK4_3 : w53.cell? ⟨gb5, 3, none⟩ = some (.int .i64 x1d) := (blk_cell BK4.out 3).trans rfl; have hz_BK4_4 : w53.cell? ⟨gb5, 4, none⟩ = some (.int .i64 x1e) := (blk_cell BK4.out 4).trans rfl) | ((with_reducible refine gate_callee (f := 25) rfl ?_); refine goesL_ (some 71) rfl rfl Try.func25 (by kernel_rfl) rfl #[.slice Ao30 g.length co31, .int .i64 1] rfl (by (try simp only [List.map_toArray, List.map_cons, List.map_nil]); first | done | rfl) ?_; (with_reducible refine (laws_heldBoolS_at E11.out k _ _ 1 m _ ?side1 ?side2 E10.out).mono ?_); (case side1 => exact HO29m.out.C); (case side2 => exact HO29m.out.cap); rintro e w54 ⟨rfl, hb⟩; refine ⟨_, rfl, ?_⟩; have n0_ := Aside0.mk (blk_below BK1.out hb.below); have n1_ := Aside0.mk (blk_below BK4.out hb.below); have n2_ := Aside0.mk (SW.below HO10.out hb.below); have n3_ := Aside0.mk (RW.below HO15.out hb.below); have n4_ := Aside0.mk (SW.below HO35.out hb.below); have n5_ := Aside0.mk (RO.below HO29m.out hb.below); have n6_ := Aside0.mk (SW.below HO45.out hb.below); have n7_ := Aside0.mk (RW.below HO50.out hb.below); have n8_ := Aside0.mk (below_step HB.out hb.below); clear BK1 BK4 HO10 HO15 HO35 HO29m HO45 HO50 HB; have BK1 := n0_; have BK4 := n1_; have HO10 := n2_; have HO15 := n3_; have HO35 := n4_; have HO29m := n5_; have HO45 := n6_; have HO50 := n7_; have HB := n8_; clear n0_ n1_ n2_ n3_ n4_ n5_ n6_ n7_ n8_; clear hb; (try clear hz_BK1_0 hz_BK4_0 hz_BK4_1 hz_BK4_2 hz_BK4_3 hz_BK4_4); have hz_BK1_0 : w54.cell? ⟨gb2, 0, none⟩ = some (.slice A0 l.length c0) := (blk_cell BK1.out 0).trans rfl; have hz_BK4_0 : w54.cell? ⟨gb5, 0, none⟩ = some (.int .i64 x1a) := (blk_cell BK4.out 0).trans rfl; have hz_BK4_1 : w54.cell? ⟨gb5, 1, none⟩ = some (.int .i64 x1b) := (blk_cell BK4.out 1).trans rfl; have hz_BK4_2 : w54.cell? ⟨gb5, 2, none⟩ = some (.int .i64 x1c) := (blk_cell BK4.out 2).trans rfl; have hz_BK4_3 : w54.cell? ⟨gb5, 3, none⟩ = some (.int .i64 x1d) := (blk_cell BK4.out 3).trans rfl; have hz_BK4_4 : w54.cell? ⟨gb5, 4, none⟩ = some (.int .i64 x1e) := (blk_cell BK4.out 4).trans rfl))
 go_ret
 exact ⟨rfl, HB.out⟩
set_option maxHeartbeats 4000000 in
set_option maxRecDepth 100000 in
theorem FnExactExprComp_big (k : Nat) (A0 : Option Addr) (c0 : Nat) (l : List S94) (x1a x1b x1c x1d x1e : Int) (left : Int) (w : World) (hr0 : Kd.C k94 w A0 l.length l) (hc0 : l.length ≤ c0) (E0 : laws_szProg.f k l 1048576 = some left) (hleft : left < 0) :
    Calls Try.prog 5 #[.agg #[.slice A0 l.length c0], .agg #[.int .i64 x1a, .int .i64 x1b, .int .i64 x1c, .int .i64 x1d, .int .i64 x1e]] w fun e w' => e = .returned (.bool true) ∧ Below w.heap.size w w' := by
 have hu24 := Try.underlying24
 have hu29 := Try.underlying29
 have hu39 := Try.underlying39
 have hu41 := Try.underlying41
 have hu43 := Try.underlying43
 have hu45 := Try.underlying45
 have c1_ : decide (left < 0) = true := decide_eq_true hleft
 clear hleft
 have HR0 := Aside0.mk hr0
 have HC0 := Aside0.mk hc0
 clear hr0 hc0
 have HB := Aside0.mk (Below.refl w.heap.size w)
 replace E0 := Aside0.mk E0
 go_enter Try.func5, Try.ntmps5
 go_wp2_with (first | ((with_reducible refine gate_dst (N := 2) rfl ?_); refine box_event ?hg (N := 2) ?hd (cs := #[.slice A0 l.length c0]) (t := 24) ?hr ?_; (case hd => rfl); (case hg => rfl); (case hr => first | (go_simp; done) | (go_simp; rfl)); intro gb1002 hg w1003 hbox hb; have n0_ := Aside0.mk (below_step HB.out hb); have n1_ := Aside0.mk (hbox); clear HB; have HB := n0_; have BK1001 := n1_; clear n0_ n1_; clear hb hbox hg; have hz_BK1001_0 : w1003.cell? ⟨gb1002, 0, none⟩ = some (.slice A0 l.length c0) := (blk_cell BK1001.out 0).trans rfl) | ((with_reducible refine gate_dst (N := 3) rfl ?_); refine box_event ?hg (N := 3) ?hd (cs := #[.int .i64 x1a, .int .i64 x1b, .int .i64 x1c, .int .i64 x1d, .int .i64 x1e]) (t := 41) ?hr ?_; (case hd => rfl); (case hg => rfl); (case hr => first | (go_simp; done) | (go_simp; rfl)); intro gb1005 hg w1006 hbox hb; have n0_ := Aside0.mk (blk_below BK1001.out hb); have n1_ := Aside0.mk (below_step HB.out hb); have n2_ := Aside0.mk (hbox); clear BK1001 HB; have BK1001 := n0_; have HB := n1_; have BK1004 := n2_; clear n0_ n1_ n2_; clear hb hbox hg; (try clear hz_BK1001_0); have hz_BK1001_0 : w1006.cell? ⟨gb1002, 0, none⟩ = some (.slice A0 l.length c0) := (blk_cell BK1001.out 0).trans rfl; have hz_BK1004_0 : w1006.cell? ⟨gb1005, 0, none⟩ = some (.int .i64 x1a) := (blk_cell BK1004.out 0).trans rfl; have hz_BK1004_1 : w1006.cell? ⟨gb1005, 1, none⟩ = some (.int .i64 x1b) := (blk_cell BK1004.out 1).trans rfl; have hz_BK1004_2 : w1006.cell? ⟨gb1005, 2, none⟩ = some (.int .i64 x1c) := (blk_cell BK1004.out 2).trans rfl; have hz_BK1004_3 : w1006.cell? ⟨gb1005, 3, none⟩ = some (.int .i64 x1d) := (blk_cell BK1004.out 3).trans rfl; have hz_BK1004_4 : w1006.cell? ⟨gb1005, 4, none⟩ = some (.int .i64 x1e) := (blk_cell BK1004.out 4).trans rfl) | ((with_reducible refine gate_callee (f := 15) rfl ?_); refine goesL_ (some 15) rfl rfl Try.func15 (by kernel_rfl) rfl #[.agg #[.slice A0 l.length c0], .int .i64 1048576] rfl (by (try simp only [List.map_toArray, List.map_cons, List.map_nil]); first | done | rfl) ?_; (with_reducible refine (laws_szProg.calls k _ _ l 1048576 left _ ?side1 ?side2 E0.out).mono ?_); (case side1 => exact Kd.C_below HR0.out HB.out); (case side2 => exact HC0.out); rintro e w1007 ⟨rfl, hb⟩; refine ⟨_, rfl, ?_⟩; have n0_ := Aside0.mk (blk_below BK1001.out hb); have n1_ := Aside0.mk (blk_below BK1004.out hb); have n2_ := Aside0.mk (below_step HB.out hb); clear BK1001 BK1004 HB; have BK1001 := n0_; have BK1004 := n1_; have HB := n2_; clear n0_ n1_ n2_; clear hb))
 go_ret
 exact ⟨rfl, HB.out⟩
theorem FnExactExprComp_walk (A0 : Option Addr) (c0 : Nat) (l : List S94) (x1a x1b x1c x1d x1e : Int) (w : World) (hr0 : Kd.C k94 w A0 l.length l) (hc0 : l.length ≤ c0) :
    Calls Try.prog 5 #[.agg #[.slice A0 l.length c0], .agg #[.int .i64 x1a, .int .i64 x1b, .int .i64 x1c, .int .i64 x1d, .int .i64 x1e]] w fun e w' => e = .returned (.bool true) ∧ Below w.heap.size w w' := by
 obtain ⟨left, hleft, hleft'⟩ := szOk l (args_small hr0).1 (args_small hr0).2
 by_cases h : left < 0
 · obtain ⟨k, hk⟩ := hleft.rounds
   exact FnExactExprComp_big k A0 c0 l x1a x1b x1c x1d x1e left w hr0 hc0 hk h
 · obtain ⟨hb, hnb⟩ := hleft' (by omega)
   have hbm : (l.map conv).length ≤ big := by rw [List.length_map]; exact hb
   have hnm : ∀ s ∈ l.map conv, s.f5.length ≤ big := by
    intro s hs
    obtain ⟨s', hs', rfl⟩ := List.mem_map.1 hs
    exact hnb s' hs'
   obtain ⟨g, hlg, es, ei⟩ := bothExprComp (l.map conv) x1a x1b x1c x1d x1e hbm hnm
   obtain ⟨mk, p', hm4, hmp⟩ := markProgEv (l.map conv) hbm hnm
   obtain ⟨m, g', hm0, hgl, em, eh⟩ := marksBool g hlg
   obtain ⟨KE0, hE0⟩ := hleft
   obtain ⟨KE1, hE1⟩ := toProgEv l hb hnb
   obtain ⟨KE3, hE3⟩ := es
   obtain ⟨KE4, hE4⟩ := ei
   obtain ⟨KE5, hE5⟩ := eqBoolEv g hlg
   obtain ⟨KE6, hE6⟩ := eqProgEv (l.map conv) hbm hnm
   obtain ⟨KE8, hE8⟩ := hmp
   obtain ⟨KE9, hE9⟩ := em
   obtain ⟨KE10, hE10⟩ := eh
   exact FnExactExprComp_go (KE0 + KE1 + KE3 + KE4 + KE5 + KE6 + KE8 + KE9 + KE10) A0 c0 l x1a x1b x1c x1d x1e left (l.map conv) _ _ _ _ _ g mk p' m g' w hr0 hc0 (hE0 (KE0 + KE1 + KE3 + KE4 + KE5 + KE6 + KE8 + KE9 + KE10) (by omega)) (hE1 (KE0 + KE1 + KE3 + KE4 + KE5 + KE6 + KE8 + KE9 + KE10) (by omega)) rfl (hE3 (KE0 + KE1 + KE3 + KE4 + KE5 + KE6 + KE8 + KE9 + KE10) (by omega)) (hE4 (KE0 + KE1 + KE3 + KE4 + KE5 + KE6 + KE8 + KE9 + KE10) (by omega)) (hE5 (KE0 + KE1 + KE3 + KE4 + KE5 + KE6 + KE8 + KE9 + KE10) (by omega)) (hE6 (KE0 + KE1 + KE3 + KE4 + KE5 + KE6 + KE8 + KE9 + KE10) (by omega)) hm4 (hE8 (KE0 + KE1 + KE3 + KE4 + KE5 + KE6 + KE8 + KE9 + KE10) (by omega)) (hE9 (KE0 + KE1 + KE3 + KE4 + KE5 + KE6 + KE8 + KE9 + KE10) (by omega)) (hE10 (KE0 + KE1 + KE3 + KE4 + KE5 + KE6 + KE8 + KE9 + KE10) (by omega)) hgl h hm0
end Go.Proofs.Ytkehjekbglajhaa.Pure
