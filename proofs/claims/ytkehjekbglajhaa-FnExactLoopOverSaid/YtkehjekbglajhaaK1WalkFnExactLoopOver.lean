-- printed by wip/lawwalk.py, a program of this session: the walk of FnExactLoopOver
import Derived.Test.YtkehjekbglajhaaK1PureMarks
import Derived.Test.YtkehjekbglajhaaK1PureLoopOver
import Derived.Test.YtkehjekbglajhaaK1PureWin
import Derived.Test.YtkehjekbglajhaaK1F3
import Derived.Test.YtkehjekbglajhaaK1F5
import Derived.Test.YtkehjekbglajhaaK1F6
import Derived.Test.YtkehjekbglajhaaK1F7
import Derived.Test.YtkehjekbglajhaaK1F12
import Derived.Test.YtkehjekbglajhaaK1F28
set_option linter.unusedSimpArgs false
namespace Go.Proofs.Ytkehjekbglajhaa.Pure
open Go.RowKit Go.Proofs.Ytkehjekbglajhaa.F Go.Proofs.YtkehjekbglajhaaW.PrintWords Go.Proofs.YtkehjekbglajhaaW.PrintLast Go.Proofs.YtkehjekbglajhaaW.PrintMore
theorem laws_heldIntS_at {n : Nat} {l0 : List Int} (hn : n = l0.length) (k : Nat) (A0 : Option Addr) (c0 : Nat)  (a1 : Int) (r : Int) (w : World) (hr0 : Kd.C (Kd.int .i64) w A0 l0.length l0) (hc0 : l0.length ≤ c0) (h : laws_heldIntS.f k l0 a1 = some r) :
    Calls Try.prog 50 #[.slice A0 n c0, .int .i64 a1] w fun e w' => e = .returned (.int .i64 r) ∧ Drawn0 w w' := by
 subst hn
 exact laws_heldIntS.calls k A0 c0 l0 a1 r w hr0 hc0 h
set_option maxHeartbeats 8000000 in
set_option maxRecDepth 100000 in
theorem FnExactLoopOver_go (k : Nat) (A0 : Option Addr) (c0 : Nat) (l : List S94) (left : Int) (p : List S68) (g : List Int) (mk : Int) (p' : List S68) (m : Int) (g' : List Int) (w : World) (hr0 : Kd.C k94 w A0 l.length l) (hc0 : l.length ≤ c0) (E0 : laws_szProg.f k l 1048576 = some left) (E1 : laws_toProg.f k l = some p) (E2 : spec_LoopOver.f k p = some g) (E3 : impl_LoopOver.f k p = some g) (E4 : laws_eqIntS.f k g g = some true) (E5 : laws_eqProg.f k p p = some true) (E6 : 0 ≤ mk) (E7 : laws_markProg.f k p 1 = some (mk, p')) (E8 : laws_markIntS.f k g 1 = some (m, g')) (E9 : laws_heldIntS.f k g' 1 = some m) (E10 : g.length = g'.length) (hleft : ¬ left < 0) (hm : 0 ≤ m) :
    Calls Try.prog 10 #[.agg #[.slice A0 l.length c0]] w fun e w' => e = .returned (.bool true) ∧ Below w.heap.size w w' := by
 have hu24 := Try.underlying24
 have hu29 := Try.underlying29
 have c1_ : decide (left < 0) = false := decide_eq_false hleft
 have c2_ : decide (mk < 0) = false := decide_eq_false (Int.not_lt.2 E6)
 have c3_ : decide (m < 0) = false := decide_eq_false (Int.not_lt.2 hm)
 have c4_ : (m != m) = false := bne_self_eq_false m
 clear hm
 clear hleft
 have HR0 := Aside0.mk hr0
 have HC0 := Aside0.mk hc0
 clear hr0 hc0
 have HB := Aside0.mk (Below.refl w.heap.size w)
 replace E0 := Aside0.mk E0
 replace E1 := Aside0.mk E1
 replace E2 := Aside0.mk E2
 replace E3 := Aside0.mk E3
 replace E4 := Aside0.mk E4
 replace E5 := Aside0.mk E5
 replace E6 := Aside0.mk E6
 replace E7 := Aside0.mk E7
 replace E8 := Aside0.mk E8
 replace E9 := Aside0.mk E9
 replace E10 := Aside0.mk E10
 go_enter Try.func10, Try.ntmps10
 go_wp2_with (first | ((with_reducible refine gate_dst (N := 1) rfl ?_); refine box_event ?hg (N := 1) ?hd (cs := #[.slice A0 l.length c0]) (t := 24) ?hr ?_; (case hd => rfl); (case hg => rfl); (case hr => first | (go_simp; done) | (go_simp; rfl)); intro gb2 hg w3 hbox hb; have n0_ := Aside0.mk (below_step HB.out hb); have n1_ := Aside0.mk (hbox); have n2_ := Aside0.mk ((by rw [hg]; exact HB.out.size : w.heap.size ≤ gb2)); clear HB; have HB := n0_; have BK1 := n1_; have GEBK1 := n2_; clear n0_ n1_ n2_; clear hb hbox hg; have hz_BK1_0 : w3.cell? ⟨gb2, 0, none⟩ = some (.slice A0 l.length c0) := (blk_cell BK1.out 0).trans rfl) | ((with_reducible refine gate_callee (f := 15) rfl ?_); refine goesL_ (some 13) rfl rfl Try.func15 (by kernel_rfl) rfl #[.agg #[.slice A0 l.length c0], .int .i64 1048576] rfl (by (try simp only [List.map_toArray, List.map_cons, List.map_nil]); first | done | rfl) ?_; (with_reducible refine (laws_szProg.calls k _ _ l 1048576 left _ ?side1 ?side2 E0.out).mono ?_); (case side1 => exact Kd.C_below HR0.out HB.out); (case side2 => exact HC0.out); rintro e w4 ⟨rfl, hb⟩; refine ⟨_, rfl, ?_⟩; have n0_ := Aside0.mk (blk_below BK1.out hb); have n1_ := Aside0.mk (below_step HB.out hb); clear BK1 HB; have BK1 := n0_; have HB := n1_; clear n0_ n1_; clear hb; (try clear hz_BK1_0); have hz_BK1_0 : w4.cell? ⟨gb2, 0, none⟩ = some (.slice A0 l.length c0) := (blk_cell BK1.out 0).trans rfl) | ((with_reducible refine gate_callee (f := 17) rfl ?_); refine goesL_ (some 17) rfl rfl Try.func17 (by kernel_rfl) rfl #[.agg #[.slice A0 l.length c0]] rfl (by (try simp only [List.map_toArray, List.map_cons, List.map_nil]); first | done | rfl) ?_; (with_reducible refine (laws_toProg.calls k _ _ l p _ ?side1 ?side2 E1.out).mono ?_); (case side1 => exact Kd.C_below HR0.out HB.out); (case side2 => exact HC0.out); rintro e w5 ⟨v_, rfl, ho, hb⟩; refine ⟨_, rfl, ?_⟩; have n0_ := Aside0.mk (blk_below BK1.out hb); have n1_ := Aside0.mk (below_step HB.out hb); have n2_ := Aside0.mk (SW.of ho hb HB.out); have n3_ := Aside0.mk (blk_lt BK1.out); clear BK1 HB; have BK1 := n0_; have HB := n1_; have HO6 := n2_; have OR_BK1_HO6 := n3_; clear n0_ n1_ n2_ n3_; clear hb ho; obtain ⟨Ao7, co8, eo_⟩ := HO6.out.slice; subst eo_; (try clear hz_BK1_0); have hz_BK1_0 : w5.cell? ⟨gb2, 0, none⟩ = some (.slice A0 l.length c0) := (blk_cell BK1.out 0).trans rfl) | ((with_reducible refine gate_callee (f := 46) rfl ?_); refine goesL_ (some 18) rfl rfl Try.func46 (by kernel_rfl) rfl #[.agg #[.slice Ao7 p.length co8]] rfl (by (try simp only [List.map_toArray, List.map_cons, List.map_nil]); first | done | rfl) ?_; (with_reducible refine (spec_LoopOver.calls k _ _ p g _ ?side1 ?side2 E2.out).mono ?_); (case side1 => exact HO6.out.C); (case side2 => exact HO6.out.cap); rintro e w9 ⟨v_, rfl, ho, hb⟩; refine ⟨_, rfl, ?_⟩; have n0_ := Aside0.mk (blk_below BK1.out hb); have n1_ := Aside0.mk (SW.below HO6.out hb); have n2_ := Aside0.mk (below_step HB.out hb); have n3_ := Aside0.mk (RW.of ho hb HB.out); have n4_ := Aside0.mk (blk_lt BK1.out); have n5_ := Aside0.mk (HO6.out.le); clear BK1 HO6 HB; have BK1 := n0_; have HO6 := n1_; have HB := n2_; have HO10 := n3_; have OR_BK1_HO10 := n4_; have OR_HO6_HO10 := n5_; clear n0_ n1_ n2_ n3_ n4_ n5_; clear hb ho; obtain ⟨Ao11, co12, eo_⟩ := HO10.out.slice; subst eo_; (try clear hz_BK1_0); have hz_BK1_0 : w9.cell? ⟨gb2, 0, none⟩ = some (.slice A0 l.length c0) := (blk_cell BK1.out 0).trans rfl) | ((with_reducible refine gate_callee (f := 17) rfl ?_); refine goesL_ (some 20) rfl rfl Try.func17 (by kernel_rfl) rfl #[.agg #[.slice A0 l.length c0]] rfl (by (try simp only [List.map_toArray, List.map_cons, List.map_nil]); first | done | rfl) ?_; (with_reducible refine (laws_toProg.calls k _ _ l p _ ?side1 ?side2 E1.out).mono ?_); (case side1 => exact Kd.C_below HR0.out HB.out); (case side2 => exact HC0.out); rintro e w13 ⟨v_, rfl, ho, hb⟩; refine ⟨_, rfl, ?_⟩; have n0_ := Aside0.mk (blk_below BK1.out hb); have n1_ := Aside0.mk (SW.below HO6.out hb); have n2_ := Aside0.mk (RW.below HO10.out hb); have n3_ := Aside0.mk (below_step HB.out hb); have n4_ := Aside0.mk (SW.of ho hb HB.out); have n5_ := Aside0.mk (blk_lt BK1.out); have n6_ := Aside0.mk (HO6.out.le); have n7_ := Aside0.mk (HO10.out.le); clear BK1 HO6 HO10 HB; have BK1 := n0_; have HO6 := n1_; have HO10 := n2_; have HB := n3_; have HO14 := n4_; have OR_BK1_HO14 := n5_; have OR_HO6_HO14 := n6_; have OR_HO10_HO14 := n7_; clear n0_ n1_ n2_ n3_ n4_ n5_ n6_ n7_; clear hb ho; obtain ⟨Ao15, co16, eo_⟩ := HO14.out.slice; subst eo_; (try clear hz_BK1_0); have hz_BK1_0 : w13.cell? ⟨gb2, 0, none⟩ = some (.slice A0 l.length c0) := (blk_cell BK1.out 0).trans rfl) | ((with_reducible refine gate_dst (N := 5) rfl ?_); refine box_event ?hg (N := 5) ?hd (cs := #[.slice none 0 0]) (t := 29) ?hr ?_; (case hd => rfl); (case hg => rfl); (case hr => first | (go_simp; done) | (go_simp; rfl)); intro gb18 hg w19 hbox hb; have n0_ := Aside0.mk (blk_below BK1.out hb); have n1_ := Aside0.mk (SW.below HO6.out hb); have n2_ := Aside0.mk (RW.below HO10.out hb); have n3_ := Aside0.mk (SW.below HO14.out hb); have n4_ := Aside0.mk (below_step HB.out hb); have n5_ := Aside0.mk (hbox); have n6_ := Aside0.mk ((by rw [hg]; exact HB.out.size : w.heap.size ≤ gb18)); have n7_ := Aside0.mk ((by rw [hg]; exact blk_lt BK1.out : gb2 < gb18)); have n8_ := Aside0.mk ((by rw [hg]; exact HO6.out.le : w5.heap.size ≤ gb18)); have n9_ := Aside0.mk ((by rw [hg]; exact HO10.out.le : w9.heap.size ≤ gb18)); have n10_ := Aside0.mk ((by rw [hg]; exact HO14.out.le : w13.heap.size ≤ gb18)); clear BK1 HO6 HO10 HO14 HB; have BK1 := n0_; have HO6 := n1_; have HO10 := n2_; have HO14 := n3_; have HB := n4_; have BK17 := n5_; have GEBK17 := n6_; have OR_BK1_BK17 := n7_; have OR_HO6_BK17 := n8_; have OR_HO10_BK17 := n9_; have OR_HO14_BK17 := n10_; clear n0_ n1_ n2_ n3_ n4_ n5_ n6_ n7_ n8_ n9_ n10_; clear hb hbox hg; (try clear hz_BK1_0); have hz_BK1_0 : w19.cell? ⟨gb2, 0, none⟩ = some (.slice A0 l.length c0) := (blk_cell BK1.out 0).trans rfl; have hz_BK17_0 : w19.cell? ⟨gb18, 0, none⟩ = some (.slice none 0 0) := (blk_cell BK17.out 0).trans rfl; have hfz_ := blk_frozen BK17.out 0) | ((with_reducible refine gate_store (t := 29) (p := 5) rfl ?_); refine store_event (t := 29) (p := 5) (v := ?vo_w20) (w1 := (w19.setCell ⟨gb18, 0, none⟩ (.slice Ao15 p.length co16))) ?hg ?ho ?hn ?hr ?_; (case ho => rfl); (case hg => rfl); (case hn => rfl); (case hr => first | (go_simp; done) | (go_simp; rfl)); intro w20 hw; have n0_ := Aside0.mk (blk_old BK1.out (kept_set hw) OR_BK1_BK17.out); have n1_ := Aside0.mk (HO6.out.keep (kept_set hw) (.inl OR_HO6_BK17.out)); have n2_ := Aside0.mk (HO10.out.keep (kept_set hw) (.inl OR_HO10_BK17.out)); have n3_ := Aside0.mk (HO14.out.keep (kept_set hw) (.inl OR_HO14_BK17.out)); have n4_ := Aside0.mk ((by rw [hw]; exact blk_put (cs := #[.slice none 0 0]) BK17.out 0 _ rfl : w20.heap[gb18]? = some (.cells #[.slice Ao15 p.length co16] 29 (0, 0)))); have n5_ := Aside0.mk (below_put hw HB.out GEBK17.out); clear hw hfz_ BK1 HO6 HO10 HO14 BK17 HB; have BK1 := n0_; have HO6 := n1_; have HO10 := n2_; have HO14 := n3_; have BK17 := n4_; have HB := n5_; clear n0_ n1_ n2_ n3_ n4_ n5_; (try clear hz_BK1_0 hz_BK17_0); have hz_BK1_0 : w20.cell? ⟨gb2, 0, none⟩ = some (.slice A0 l.length c0) := (blk_cell BK1.out 0).trans rfl; have hz_BK17_0 : w20.cell? ⟨gb18, 0, none⟩ = some (.slice Ao15 p.length co16) := (blk_cell BK17.out 0).trans rfl) | ((with_reducible refine gate_callee (f := 47) rfl ?_); refine goesL_ (some 22) rfl rfl Try.func47 (by kernel_rfl) rfl #[.agg #[.slice Ao15 p.length co16]] rfl (by (try simp only [List.map_toArray, List.map_cons, List.map_nil]); first | done | rfl) ?_; (with_reducible refine (impl_LoopOver.calls k _ _ p g _ ?side1 ?side2 E3.out).mono ?_); (case side1 => exact HO14.out.C); (case side2 => exact HO14.out.cap); rintro e w21 ⟨v_, rfl, ho, hb⟩; refine ⟨_, rfl, ?_⟩; have n0_ := Aside0.mk (blk_below BK1.out hb); have n1_ := Aside0.mk (SW.below HO6.out hb); have n2_ := Aside0.mk (RW.below HO10.out hb); have n3_ := Aside0.mk (SW.below HO14.out hb); have n4_ := Aside0.mk (blk_below BK17.out hb); have n5_ := Aside0.mk (below_step HB.out hb); have n6_ := Aside0.mk (RW.of ho hb HB.out); have n7_ := Aside0.mk (blk_lt BK1.out); have n8_ := Aside0.mk (HO6.out.le); have n9_ := Aside0.mk (HO10.out.le); have n10_ := Aside0.mk (HO14.out.le); have n11_ := Aside0.mk (blk_lt BK17.out); clear BK1 HO6 HO10 HO14 BK17 HB; have BK1 := n0_; have HO6 := n1_; have HO10 := n2_; have HO14 := n3_; have BK17 := n4_; have HB := n5_; have HO22 := n6_; have OR_BK1_HO22 := n7_; have OR_HO6_HO22 := n8_; have OR_HO10_HO22 := n9_; have OR_HO14_HO22 := n10_; have OR_BK17_HO22 := n11_; clear n0_ n1_ n2_ n3_ n4_ n5_ n6_ n7_ n8_ n9_ n10_ n11_; clear hb ho; obtain ⟨Ao23, co24, eo_⟩ := HO22.out.slice; subst eo_; (try clear hz_BK1_0 hz_BK17_0); have hz_BK1_0 : w21.cell? ⟨gb2, 0, none⟩ = some (.slice A0 l.length c0) := (blk_cell BK1.out 0).trans rfl; have hz_BK17_0 : w21.cell? ⟨gb18, 0, none⟩ = some (.slice Ao15 p.length co16) := (blk_cell BK17.out 0).trans rfl) | ((with_reducible refine gate_callee (f := 48) rfl ?_); refine goesL_ (some 25) rfl rfl Try.func48 (by kernel_rfl) rfl #[.slice Ao23 g.length co24, .slice Ao11 g.length co12] rfl (by (try simp only [List.map_toArray, List.map_cons, List.map_nil]); first | done | rfl) ?_; (with_reducible refine (laws_eqIntS.calls k _ _ g _ _ g true _ ?side1 ?side2 ?side3 ?side4 E4.out).mono ?_); (case side1 => exact HO22.out.C); (case side2 => exact HO22.out.cap); (case side3 => exact HO10.out.C); (case side4 => exact HO10.out.cap); rintro e w25 ⟨rfl, hb⟩; refine ⟨_, rfl, ?_⟩; have n0_ := Aside0.mk (blk_below BK1.out hb.below); have n1_ := Aside0.mk (SW.below HO6.out hb.below); have n2_ := Aside0.mk (RW.below HO10.out hb.below); have n3_ := Aside0.mk (SW.below HO14.out hb.below); have n4_ := Aside0.mk (blk_below BK17.out hb.below); have n5_ := Aside0.mk (RW.below HO22.out hb.below); have n6_ := Aside0.mk (below_step HB.out hb.below); clear BK1 HO6 HO10 HO14 BK17 HO22 HB; have BK1 := n0_; have HO6 := n1_; have HO10 := n2_; have HO14 := n3_; have BK17 := n4_; have HO22 := n5_; have HB := n6_; clear n0_ n1_ n2_ n3_ n4_ n5_ n6_; clear hb; (try clear hz_BK1_0 hz_BK17_0); have hz_BK1_0 : w25.cell? ⟨gb2, 0, none⟩ = some (.slice A0 l.length c0) := (blk_cell BK1.out 0).trans rfl; have hz_BK17_0 : w25.cell? ⟨gb18, 0, none⟩ = some (.slice Ao15 p.length co16) := (blk_cell BK17.out 0).trans rfl))
 have n0_ := Aside0.mk (blk_below BK1.out (below_drew (Below.refl _ _)))
 have n1_ := Aside0.mk (SW.below HO6.out (below_drew (Below.refl _ _)))
 have n2_ := Aside0.mk (RW.below HO10.out (below_drew (Below.refl _ _)))
 have n3_ := Aside0.mk (SW.below HO14.out (below_drew (Below.refl _ _)))
 have n4_ := Aside0.mk (blk_below BK17.out (below_drew (Below.refl _ _)))
 have n5_ := Aside0.mk (RW.below HO22.out (below_drew (Below.refl _ _)))
 have n6_ := Aside0.mk (below_step HB.out (below_drew (Below.refl _ _)))
 clear BK1 HO6 HO10 HO14 BK17 HO22 HB
 have BK1 := n0_
 have HO6 := n1_
 have HO10 := n2_
 have HO14 := n3_
 have BK17 := n4_
 have HO22 := n5_
 have HB := n6_
 clear n0_ n1_ n2_ n3_ n4_ n5_ n6_
 refine start_ (n := 5) (S := fun w' => w'.cell? ⟨gb18, 0, none⟩ = some (.slice Ao15 p.length co16) ∧ w'.cell? ⟨gb2, 0, none⟩ = some (.slice A0 l.length c0)) (ds := []) #[false, false, false, false, false] (by kernel_rfl) rfl rfl ⟨(blk_cell BK17.out 0).trans rfl, (blk_cell BK1.out 0).trans rfl⟩ (fun hHeld => ?_)
 (try clear hz_BK1_0 hz_BK17_0)
 generalize w25.drew = w26 at BK1 HO6 HO10 HO14 BK17 HO22 HB hHeld ⊢
 refine take_ (i := 0) (N := some 27) (v := ?_) (a' := ?_) #[true, false, false, false, false] rfl rfl (by kernel_rfl) (fun _ _ _ h => h) (Or.inl ⟨by rfl, ?_⟩) hHeld ?_ ?_
 rotate_left
 ·rintro w' ⟨s0, s1⟩
  go_simp
  with_reducible rfl
 rotate_left
 ·simp only [Act.put, List.setIfInBounds_toArray, List.set_cons_zero, List.set_cons_succ, i64_w, i32_w]
  rfl
 refine take_ (i := 1) (N := some 28) (v := ?_) (a' := ?_) #[true, true, false, false, false] rfl rfl (by kernel_rfl) (fun _ _ _ h => h) (Or.inl ⟨by rfl, ?_⟩) hHeld ?_ ?_
 rotate_left
 ·rintro w' ⟨s0, s1⟩
  go_simp
  with_reducible rfl
 rotate_left
 ·simp only [Act.put, List.setIfInBounds_toArray, List.set_cons_zero, List.set_cons_succ, i64_w, i32_w]
  rfl
 refine one_ (i := 2) (N := some 29) #[true, true, true, false, false] rfl rfl (by kernel_rfl) (by decide) (fun K hK => ?_)
 refine goes_ Try.func17 (by kernel_rfl) rfl #[.agg #[.slice A0 l.length c0]] (by rfl) rfl rfl (by (try simp only [List.map_toArray, List.map_cons, List.map_nil]); first | done | rfl) ?_
 with_reducible refine (laws_toProg.calls k _ _ l p _ ?side1 ?side2 E1.out).mono ?_
 (case side1 => exact Kd.C_below HR0.out HB.out)
 (case side2 => exact HC0.out)
 rintro e w27 ⟨v_, rfl, ho, hb⟩
 refine ⟨_, rfl, ?_⟩
 have n0_ := Aside0.mk (blk_below BK1.out hb)
 have n1_ := Aside0.mk (SW.below HO6.out hb)
 have n2_ := Aside0.mk (RW.below HO10.out hb)
 have n3_ := Aside0.mk (SW.below HO14.out hb)
 have n4_ := Aside0.mk (blk_below BK17.out hb)
 have n5_ := Aside0.mk (RW.below HO22.out hb)
 have n6_ := Aside0.mk (below_step HB.out hb)
 have n7_ := Aside0.mk (SW.of ho hb HB.out)
 have n8_ := Aside0.mk (blk_lt BK1.out)
 have n9_ := Aside0.mk (HO6.out.le)
 have n10_ := Aside0.mk (HO10.out.le)
 have n11_ := Aside0.mk (HO14.out.le)
 have n12_ := Aside0.mk (blk_lt BK17.out)
 have n13_ := Aside0.mk (HO22.out.le)
 clear BK1 HO6 HO10 HO14 BK17 HO22 HB
 have BK1 := n0_
 have HO6 := n1_
 have HO10 := n2_
 have HO14 := n3_
 have BK17 := n4_
 have HO22 := n5_
 have HB := n6_
 have HO28 := n7_
 have OR_BK1_HO28 := n8_
 have OR_HO6_HO28 := n9_
 have OR_HO10_HO28 := n10_
 have OR_HO14_HO28 := n11_
 have OR_BK17_HO28 := n12_
 have OR_HO22_HO28 := n13_
 clear n0_ n1_ n2_ n3_ n4_ n5_ n6_ n7_ n8_ n9_ n10_ n11_ n12_ n13_
 clear hb ho
 obtain ⟨Ao29, co30, eo_⟩ := HO28.out.slice
 subst eo_
 refine hK.out _ _ ⟨(blk_cell BK17.out 0).trans rfl, (blk_cell BK1.out 0).trans rfl⟩ (fun hHeld => ?_)
 clear hK K
 refine norm_ (a' := ?_) ?_ ?_
 rotate_left
 ·show Act.put _ (some 29) _ = _
  simp only [Act.put, List.setIfInBounds_toArray, List.set_cons_zero, List.set_cons_succ, i64_w, i32_w]
  rfl
 refine one_ (i := 3) (N := some 30) #[true, true, true, true, false] rfl rfl (by kernel_rfl) (by decide) (fun K hK => ?_)
 refine goes_ Try.func19 (by kernel_rfl) rfl #[.agg #[.slice Ao15 p.length co16], .agg #[.slice Ao29 p.length co30]] (by rfl) rfl rfl (by (try simp only [List.map_toArray, List.map_cons, List.map_nil]); first | done | rfl) ?_
 with_reducible refine (laws_eqProg.calls k _ _ p _ _ p true _ ?side1 ?side2 ?side3 ?side4 E5.out).mono ?_
 (case side1 => exact HO14.out.C)
 (case side2 => exact HO14.out.cap)
 (case side3 => exact HO28.out.C)
 (case side4 => exact HO28.out.cap)
 rintro e w31 ⟨rfl, hb⟩
 refine ⟨_, rfl, ?_⟩
 have n0_ := Aside0.mk (blk_below BK1.out hb)
 have n1_ := Aside0.mk (SW.below HO6.out hb)
 have n2_ := Aside0.mk (RW.below HO10.out hb)
 have n3_ := Aside0.mk (SW.below HO14.out hb)
 have n4_ := Aside0.mk (blk_below BK17.out hb)
 have n5_ := Aside0.mk (RW.below HO22.out hb)
 have n6_ := Aside0.mk (SW.below HO28.out hb)
 have n7_ := Aside0.mk (below_step HB.out hb)
 clear BK1 HO6 HO10 HO14 BK17 HO22 HO28 HB
 have BK1 := n0_
 have HO6 := n1_
 have HO10 := n2_
 have HO14 := n3_
 have BK17 := n4_
 have HO22 := n5_
 have HO28 := n6_
 have HB := n7_
 clear n0_ n1_ n2_ n3_ n4_ n5_ n6_ n7_
 clear hb
 refine hK.out _ _ ⟨(blk_cell BK17.out 0).trans rfl, (blk_cell BK1.out 0).trans rfl⟩ (fun hHeld => ?_)
 clear hK K
 refine norm_ (a' := ?_) ?_ ?_
 rotate_left
 ·show Act.put _ (some 30) _ = _
  simp only [Act.put, List.setIfInBounds_toArray, List.set_cons_zero, List.set_cons_succ, i64_w, i32_w]
  rfl
 refine pure_ (i := 4) (N := some 31) (v := ?_) (a' := ?_) #[true, true, true, true, true] rfl rfl (by kernel_rfl) (fun _ _ _ h => h) (Or.inl ⟨by rfl, ?_⟩) ?_ ?_
 rotate_left
 ·intro w'
  go_simp
  with_reducible rfl
 rotate_left
 ·simp only [Act.put, List.setIfInBounds_toArray, List.set_cons_zero, List.set_cons_succ, i64_w, i32_w]
  rfl
 refine done_ (by kernel_rfl) ?_
 have hz_BK1_0 : w31.cell? ⟨gb2, 0, none⟩ = some (.slice A0 l.length c0) := (blk_cell BK1.out 0).trans rfl
 have hz_BK17_0 : w31.cell? ⟨gb18, 0, none⟩ = some (.slice Ao15 p.length co16) := (blk_cell BK17.out 0).trans rfl
 go_wp2_with (first | ((with_reducible refine gate_callee (f := 23) rfl ?_); refine goesL_ (some 34) rfl rfl Try.func23 (by kernel_rfl) rfl #[.agg #[.slice Ao15 p.length co16], .int .i64 1] rfl (by (try simp only [List.map_toArray, List.map_cons, List.map_nil]); first | done | rfl) ?_; (with_reducible refine (laws_markProg.calls k (fun k => w9.heap.size ≤ k ∧ k < w13.heap.size) _ p 1 mk p' w _ ?side1 ?side2 E7.out).mono ?_); (case side1 => exact HB.out); (case side2 => exact HO14.out.row); rintro e w32 ⟨rfl, ho, hb2, hk⟩; refine ⟨_, rfl, ?_⟩; have m0_ := Aside0.mk hb2; clear HB hb2; have HB := m0_; clear m0_; have n0_ := Aside0.mk (blk_old BK1.out hk (OR_BK1_HO14.out)); have n1_ := Aside0.mk (SW.keep HO6.out hk (.inl (OR_HO6_HO14.out))); have n2_ := Aside0.mk (RW.keep HO10.out hk (.inl (OR_HO10_HO14.out))); clear BK17; have n3_ := Aside0.mk (RW.keep HO22.out hk (.inr (OR_HO14_HO22.out))); have n4_ := Aside0.mk (SW.keep HO28.out hk (.inr (OR_HO14_HO28.out))); clear BK1 HO6 HO10 HO22 HO28; have BK1 := n0_; have HO6 := n1_; have HO10 := n2_; have HO22 := n3_; have HO28 := n4_; clear n0_ n1_ n2_ n3_ n4_; clear hk ho HO14; (try clear hz_BK1_0 hz_BK17_0); have hz_BK1_0 : w32.cell? ⟨gb2, 0, none⟩ = some (.slice A0 l.length c0) := (blk_cell BK1.out 0).trans rfl) | (go_at_call 48; (with_reducible refine (laws_eqIntS.calls k _ _ g _ _ g true _ ?side1 ?side2 ?side3 ?side4 E4.out).mono ?_); (case side1 => exact HO22.out.C); (case side2 => exact HO22.out.cap); (case side3 => exact HO10.out.C); (case side4 => exact HO10.out.cap); rintro e w33 ⟨rfl, hb⟩; have n0_ := Aside0.mk (blk_below BK1.out hb.below); have n1_ := Aside0.mk (SW.below HO6.out hb.below); have n2_ := Aside0.mk (RW.below HO10.out hb.below); have n3_ := Aside0.mk (RW.below HO22.out hb.below); have n4_ := Aside0.mk (SW.below HO28.out hb.below); have n5_ := Aside0.mk (below_step HB.out hb.below); clear BK1 HO6 HO10 HO22 HO28 HB; have BK1 := n0_; have HO6 := n1_; have HO10 := n2_; have HO22 := n3_; have HO28 := n4_; have HB := n5_; clear n0_ n1_ n2_ n3_ n4_ n5_; clear hb; (try clear hz_BK1_0); have hz_BK1_0 : w33.cell? ⟨gb2, 0, none⟩ = some (.slice A0 l.length c0) := (blk_cell BK1.out 0).trans rfl) | ((with_reducible refine gate_callee (f := 49) rfl ?_); refine goesL_ (some 45) rfl rfl Try.func49 (by kernel_rfl) rfl #[.slice Ao23 g.length co24, .int .i64 1] rfl (by (try simp only [List.map_toArray, List.map_cons, List.map_nil]); first | done | rfl) ?_; (with_reducible refine (laws_markIntS.calls k (fun k => w20.heap.size ≤ k ∧ k < w21.heap.size) _ g 1 m g' w _ ?side1 ?side2 E8.out).mono ?_); (case side1 => exact HB.out); (case side2 => exact HO22.out.row); rintro e w34 ⟨rfl, ho, hb2, hk⟩; refine ⟨_, rfl, ?_⟩; have m0_ := Aside0.mk hb2; clear HB hb2; have HB := m0_; clear m0_; have n0_ := Aside0.mk (blk_old BK1.out hk (OR_BK1_HO22.out)); have n1_ := Aside0.mk (SW.keep HO6.out hk (.inl (OR_HO6_HO22.out))); have n2_ := Aside0.mk (RW.keep HO10.out hk (.inl (OR_HO10_HO22.out))); have n3_ := Aside0.mk (SW.keep HO28.out hk (.inr (OR_HO22_HO28.out))); clear BK1 HO6 HO10 HO28; have BK1 := n0_; have HO6 := n1_; have HO10 := n2_; have HO28 := n3_; clear n0_ n1_ n2_ n3_; have HO22m := Aside0.mk (RO.of ho); clear hk ho HO22; (try clear hz_BK1_0); have hz_BK1_0 : w34.cell? ⟨gb2, 0, none⟩ = some (.slice A0 l.length c0) := (blk_cell BK1.out 0).trans rfl) | ((with_reducible refine gate_callee (f := 50) rfl ?_); refine goesL_ (some 48) rfl rfl Try.func50 (by kernel_rfl) rfl #[.slice Ao23 g.length co24, .int .i64 1] rfl (by (try simp only [List.map_toArray, List.map_cons, List.map_nil]); first | done | rfl) ?_; (with_reducible refine (laws_heldIntS_at E10.out k _ _ 1 m _ ?side1 ?side2 E9.out).mono ?_); (case side1 => exact HO22m.out.C); (case side2 => exact HO22m.out.cap); rintro e w35 ⟨rfl, hb⟩; refine ⟨_, rfl, ?_⟩; have n0_ := Aside0.mk (blk_below BK1.out hb.below); have n1_ := Aside0.mk (SW.below HO6.out hb.below); have n2_ := Aside0.mk (RW.below HO10.out hb.below); have n3_ := Aside0.mk (SW.below HO28.out hb.below); have n4_ := Aside0.mk (RO.below HO22m.out hb.below); have n5_ := Aside0.mk (below_step HB.out hb.below); clear BK1 HO6 HO10 HO28 HO22m HB; have BK1 := n0_; have HO6 := n1_; have HO10 := n2_; have HO28 := n3_; have HO22m := n4_; have HB := n5_; clear n0_ n1_ n2_ n3_ n4_ n5_; clear hb; (try clear hz_BK1_0); have hz_BK1_0 : w35.cell? ⟨gb2, 0, none⟩ = some (.slice A0 l.length c0) := (blk_cell BK1.out 0).trans rfl) | ((with_reducible refine gate_callee (f := 17) rfl ?_); refine goesL_ (some 55) rfl rfl Try.func17 (by kernel_rfl) rfl #[.agg #[.slice A0 l.length c0]] rfl (by (try simp only [List.map_toArray, List.map_cons, List.map_nil]); first | done | rfl) ?_; (with_reducible refine (laws_toProg.calls k _ _ l p _ ?side1 ?side2 E1.out).mono ?_); (case side1 => exact Kd.C_below HR0.out HB.out); (case side2 => exact HC0.out); rintro e w36 ⟨v_, rfl, ho, hb⟩; refine ⟨_, rfl, ?_⟩; have n0_ := Aside0.mk (blk_below BK1.out hb); have n1_ := Aside0.mk (SW.below HO6.out hb); have n2_ := Aside0.mk (RW.below HO10.out hb); have n3_ := Aside0.mk (SW.below HO28.out hb); have n4_ := Aside0.mk (RO.below HO22m.out hb); have n5_ := Aside0.mk (below_step HB.out hb); have n6_ := Aside0.mk (SW.of ho hb HB.out); have n7_ := Aside0.mk (blk_lt BK1.out); have n8_ := Aside0.mk (HO6.out.le); have n9_ := Aside0.mk (HO10.out.le); have n10_ := Aside0.mk (HO28.out.le); clear BK1 HO6 HO10 HO28 HO22m HB; have BK1 := n0_; have HO6 := n1_; have HO10 := n2_; have HO28 := n3_; have HO22m := n4_; have HB := n5_; have HO37 := n6_; have OR_BK1_HO37 := n7_; have OR_HO6_HO37 := n8_; have OR_HO10_HO37 := n9_; have OR_HO28_HO37 := n10_; clear n0_ n1_ n2_ n3_ n4_ n5_ n6_ n7_ n8_ n9_ n10_; clear hb ho; obtain ⟨Ao38, co39, eo_⟩ := HO37.out.slice; subst eo_; (try clear hz_BK1_0); have hz_BK1_0 : w36.cell? ⟨gb2, 0, none⟩ = some (.slice A0 l.length c0) := (blk_cell BK1.out 0).trans rfl) | ((with_reducible refine gate_callee (f := 47) rfl ?_); refine goesL_ (some 56) rfl rfl Try.func47 (by kernel_rfl) rfl #[.agg #[.slice Ao38 p.length co39]] rfl (by (try simp only [List.map_toArray, List.map_cons, List.map_nil]); first | done | rfl) ?_; (with_reducible refine (impl_LoopOver.calls k _ _ p g _ ?side1 ?side2 E3.out).mono ?_); (case side1 => exact HO37.out.C); (case side2 => exact HO37.out.cap); rintro e w40 ⟨v_, rfl, ho, hb⟩; refine ⟨_, rfl, ?_⟩; have n0_ := Aside0.mk (blk_below BK1.out hb); have n1_ := Aside0.mk (SW.below HO6.out hb); have n2_ := Aside0.mk (RW.below HO10.out hb); have n3_ := Aside0.mk (SW.below HO28.out hb); have n4_ := Aside0.mk (RO.below HO22m.out hb); have n5_ := Aside0.mk (SW.below HO37.out hb); have n6_ := Aside0.mk (below_step HB.out hb); have n7_ := Aside0.mk (RW.of ho hb HB.out); have n8_ := Aside0.mk (blk_lt BK1.out); have n9_ := Aside0.mk (HO6.out.le); have n10_ := Aside0.mk (HO10.out.le); have n11_ := Aside0.mk (HO28.out.le); have n12_ := Aside0.mk (HO37.out.le); clear BK1 HO6 HO10 HO28 HO22m HO37 HB; have BK1 := n0_; have HO6 := n1_; have HO10 := n2_; have HO28 := n3_; have HO22m := n4_; have HO37 := n5_; have HB := n6_; have HO41 := n7_; have OR_BK1_HO41 := n8_; have OR_HO6_HO41 := n9_; have OR_HO10_HO41 := n10_; have OR_HO28_HO41 := n11_; have OR_HO37_HO41 := n12_; clear n0_ n1_ n2_ n3_ n4_ n5_ n6_ n7_ n8_ n9_ n10_ n11_ n12_; clear hb ho; obtain ⟨Ao42, co43, eo_⟩ := HO41.out.slice; subst eo_; (try clear hz_BK1_0); have hz_BK1_0 : w40.cell? ⟨gb2, 0, none⟩ = some (.slice A0 l.length c0) := (blk_cell BK1.out 0).trans rfl) | ((with_reducible refine gate_callee (f := 48) rfl ?_); refine goesL_ (some 59) rfl rfl Try.func48 (by kernel_rfl) rfl #[.slice Ao42 g.length co43, .slice Ao11 g.length co12] rfl (by (try simp only [List.map_toArray, List.map_cons, List.map_nil]); first | done | rfl) ?_; (with_reducible refine (laws_eqIntS.calls k _ _ g _ _ g true _ ?side1 ?side2 ?side3 ?side4 E4.out).mono ?_); (case side1 => exact HO41.out.C); (case side2 => exact HO41.out.cap); (case side3 => exact HO10.out.C); (case side4 => exact HO10.out.cap); rintro e w44 ⟨rfl, hb⟩; refine ⟨_, rfl, ?_⟩; have n0_ := Aside0.mk (blk_below BK1.out hb.below); have n1_ := Aside0.mk (SW.below HO6.out hb.below); have n2_ := Aside0.mk (RW.below HO10.out hb.below); have n3_ := Aside0.mk (SW.below HO28.out hb.below); have n4_ := Aside0.mk (RO.below HO22m.out hb.below); have n5_ := Aside0.mk (SW.below HO37.out hb.below); have n6_ := Aside0.mk (RW.below HO41.out hb.below); have n7_ := Aside0.mk (below_step HB.out hb.below); clear BK1 HO6 HO10 HO28 HO22m HO37 HO41 HB; have BK1 := n0_; have HO6 := n1_; have HO10 := n2_; have HO28 := n3_; have HO22m := n4_; have HO37 := n5_; have HO41 := n6_; have HB := n7_; clear n0_ n1_ n2_ n3_ n4_ n5_ n6_ n7_; clear hb; (try clear hz_BK1_0); have hz_BK1_0 : w44.cell? ⟨gb2, 0, none⟩ = some (.slice A0 l.length c0) := (blk_cell BK1.out 0).trans rfl) | ((with_reducible refine gate_callee (f := 50) rfl ?_); refine goesL_ (some 63) rfl rfl Try.func50 (by kernel_rfl) rfl #[.slice Ao23 g.length co24, .int .i64 1] rfl (by (try simp only [List.map_toArray, List.map_cons, List.map_nil]); first | done | rfl) ?_; (with_reducible refine (laws_heldIntS_at E10.out k _ _ 1 m _ ?side1 ?side2 E9.out).mono ?_); (case side1 => exact HO22m.out.C); (case side2 => exact HO22m.out.cap); rintro e w45 ⟨rfl, hb⟩; refine ⟨_, rfl, ?_⟩; have n0_ := Aside0.mk (blk_below BK1.out hb.below); have n1_ := Aside0.mk (SW.below HO6.out hb.below); have n2_ := Aside0.mk (RW.below HO10.out hb.below); have n3_ := Aside0.mk (SW.below HO28.out hb.below); have n4_ := Aside0.mk (RO.below HO22m.out hb.below); have n5_ := Aside0.mk (SW.below HO37.out hb.below); have n6_ := Aside0.mk (RW.below HO41.out hb.below); have n7_ := Aside0.mk (below_step HB.out hb.below); clear BK1 HO6 HO10 HO28 HO22m HO37 HO41 HB; have BK1 := n0_; have HO6 := n1_; have HO10 := n2_; have HO28 := n3_; have HO22m := n4_; have HO37 := n5_; have HO41 := n6_; have HB := n7_; clear n0_ n1_ n2_ n3_ n4_ n5_ n6_ n7_; clear hb; (try clear hz_BK1_0); have hz_BK1_0 : w45.cell? ⟨gb2, 0, none⟩ = some (.slice A0 l.length c0) := (blk_cell BK1.out 0).trans rfl))
 go_ret
 exact ⟨rfl, HB.out⟩
set_option maxHeartbeats 4000000 in
set_option maxRecDepth 100000 in
theorem FnExactLoopOver_big (k : Nat) (A0 : Option Addr) (c0 : Nat) (l : List S94) (left : Int) (w : World) (hr0 : Kd.C k94 w A0 l.length l) (hc0 : l.length ≤ c0) (E0 : laws_szProg.f k l 1048576 = some left) (hleft : left < 0) :
    Calls Try.prog 10 #[.agg #[.slice A0 l.length c0]] w fun e w' => e = .returned (.bool true) ∧ Below w.heap.size w w' := by
 have hu24 := Try.underlying24
 have hu29 := Try.underlying29
 have c1_ : decide (left < 0) = true := decide_eq_true hleft
 clear hleft
 have HR0 := Aside0.mk hr0
 have HC0 := Aside0.mk hc0
 clear hr0 hc0
 have HB := Aside0.mk (Below.refl w.heap.size w)
 replace E0 := Aside0.mk E0
 go_enter Try.func10, Try.ntmps10
 go_wp2_with (first | ((with_reducible refine gate_dst (N := 1) rfl ?_); refine box_event ?hg (N := 1) ?hd (cs := #[.slice A0 l.length c0]) (t := 24) ?hr ?_; (case hd => rfl); (case hg => rfl); (case hr => first | (go_simp; done) | (go_simp; rfl)); intro gb1002 hg w1003 hbox hb; have n0_ := Aside0.mk (below_step HB.out hb); have n1_ := Aside0.mk (hbox); clear HB; have HB := n0_; have BK1001 := n1_; clear n0_ n1_; clear hb hbox hg; have hz_BK1001_0 : w1003.cell? ⟨gb1002, 0, none⟩ = some (.slice A0 l.length c0) := (blk_cell BK1001.out 0).trans rfl) | ((with_reducible refine gate_callee (f := 15) rfl ?_); refine goesL_ (some 13) rfl rfl Try.func15 (by kernel_rfl) rfl #[.agg #[.slice A0 l.length c0], .int .i64 1048576] rfl (by (try simp only [List.map_toArray, List.map_cons, List.map_nil]); first | done | rfl) ?_; (with_reducible refine (laws_szProg.calls k _ _ l 1048576 left _ ?side1 ?side2 E0.out).mono ?_); (case side1 => exact Kd.C_below HR0.out HB.out); (case side2 => exact HC0.out); rintro e w1004 ⟨rfl, hb⟩; refine ⟨_, rfl, ?_⟩; have n0_ := Aside0.mk (blk_below BK1001.out hb); have n1_ := Aside0.mk (below_step HB.out hb); clear BK1001 HB; have BK1001 := n0_; have HB := n1_; clear n0_ n1_; clear hb))
 go_ret
 exact ⟨rfl, HB.out⟩
theorem FnExactLoopOver_walk (A0 : Option Addr) (c0 : Nat) (l : List S94)  (w : World) (hr0 : Kd.C k94 w A0 l.length l) (hc0 : l.length ≤ c0) :
    Calls Try.prog 10 #[.agg #[.slice A0 l.length c0]] w fun e w' => e = .returned (.bool true) ∧ Below w.heap.size w w' := by
 obtain ⟨left, hleft, hleft'⟩ := szOk l (args_small hr0).1 (args_small hr0).2
 by_cases h : left < 0
 · obtain ⟨k, hk⟩ := hleft.rounds
   exact FnExactLoopOver_big k A0 c0 l left w hr0 hc0 hk h
 · obtain ⟨hb, hnb⟩ := hleft' (by omega)
   have hbm : (l.map conv).length ≤ big := by rw [List.length_map]; exact hb
   have hnm : ∀ s ∈ l.map conv, s.f5.length ≤ big := by
    intro s hs
    obtain ⟨s', hs', rfl⟩ := List.mem_map.1 hs
    exact hnb s' hs'
   obtain ⟨g, hlg, es, ei⟩ := bothLoopOver (l.map conv)  hbm hnm
   obtain ⟨mk, p', hm4, hmp⟩ := markProgEv (l.map conv) hbm hnm
   obtain ⟨m, g', hm0, hgl, em, eh⟩ := marksInt g hlg
   obtain ⟨KE0, hE0⟩ := hleft
   obtain ⟨KE1, hE1⟩ := toProgEv l hb hnb
   obtain ⟨KE2, hE2⟩ := es
   obtain ⟨KE3, hE3⟩ := ei
   obtain ⟨KE4, hE4⟩ := eqIntEv g hlg
   obtain ⟨KE5, hE5⟩ := eqProgEv (l.map conv) hbm hnm
   obtain ⟨KE7, hE7⟩ := hmp
   obtain ⟨KE8, hE8⟩ := em
   obtain ⟨KE9, hE9⟩ := eh
   exact FnExactLoopOver_go (KE0 + KE1 + KE2 + KE3 + KE4 + KE5 + KE7 + KE8 + KE9) A0 c0 l left (l.map conv) g mk p' m g' w hr0 hc0 (hE0 (KE0 + KE1 + KE2 + KE3 + KE4 + KE5 + KE7 + KE8 + KE9) (by omega)) (hE1 (KE0 + KE1 + KE2 + KE3 + KE4 + KE5 + KE7 + KE8 + KE9) (by omega)) (hE2 (KE0 + KE1 + KE2 + KE3 + KE4 + KE5 + KE7 + KE8 + KE9) (by omega)) (hE3 (KE0 + KE1 + KE2 + KE3 + KE4 + KE5 + KE7 + KE8 + KE9) (by omega)) (hE4 (KE0 + KE1 + KE2 + KE3 + KE4 + KE5 + KE7 + KE8 + KE9) (by omega)) (hE5 (KE0 + KE1 + KE2 + KE3 + KE4 + KE5 + KE7 + KE8 + KE9) (by omega)) hm4 (hE7 (KE0 + KE1 + KE2 + KE3 + KE4 + KE5 + KE7 + KE8 + KE9) (by omega)) (hE8 (KE0 + KE1 + KE2 + KE3 + KE4 + KE5 + KE7 + KE8 + KE9) (by omega)) (hE9 (KE0 + KE1 + KE2 + KE3 + KE4 + KE5 + KE7 + KE8 + KE9) (by omega)) hgl h hm0
end Go.Proofs.Ytkehjekbglajhaa.Pure
