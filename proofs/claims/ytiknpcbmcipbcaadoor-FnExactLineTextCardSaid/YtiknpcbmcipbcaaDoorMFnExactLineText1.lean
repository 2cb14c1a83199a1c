/- The law's functions, their contracts, and the plain lemmas: texts of this claim, laid together. -/
import Derived.Deep.Slices
import Derived.Deep.Fields
import Derived.ChangeSame
import Derived.OpenShut
import Derived.Lib.Join
import Derived.Test.YtiknpcbmcipbcaaDoorMFnExactLineText0
section
namespace Go.Proofs.YtiknpcbmcipbcaaDoor.G
open Go.RowKit Go.Proofs.YtiknpcbmcipbcaaDoorW.PrintWords Go.Proofs.YtiknpcbmcipbcaaDoorW.PrintLast Go.Proofs.YtiknpcbmcipbcaaDoorW.PrintMore
attribute [local go_sem] max2_int min2_int max_two min_two max_three min_three max_four min_four
set_option linter.unusedVariables false
set_option linter.unusedSimpArgs false
def laws_FnExactLineText.f (k : Nat) (l0 : List (S34)) : Option (Bool) := (laws_szShipS.f l0 1048576).bind fun t101 => (if t101 < 0 then (some true) else ((laws_toShipS.f k l0).bind fun t102 => ((spec_LineText.f k t102).bind fun t105 => ((laws_toShipS.f k l0).bind fun t106 => ((impl_LineText.f k t106).bind fun t109 => (if t109.toList = t105.toList then ((laws_toShipS.f k l0).bind fun t110 => ((laws_eqShipS.f k t106 t110).bind fun t113 => (if t113 = true then (some true) else (some false)))) else (some false)))))))
set_option maxHeartbeats 8000000 in
set_option maxRecDepth 100000 in
theorem laws_FnExactLineText.calls (k : Nat) (A0 : Option Addr) (c0 : Nat) (l0 : List (S34)) (r : Bool) (w : World) (hr0 : Kd.C k34 w A0 l0.length l0) (hc0 : l0.length ≤ c0) (henv : Env w) (h : laws_FnExactLineText.f k l0 = some r) :
  Calls Tryd.prog 3 #[.slice A0 l0.length c0] w fun e w' => e = .returned (.bool r) ∧ Below w.heap.size w w' := by
 have HR0 := Aside0.mk hr0;have HC0 := Aside0.mk hc0;clear hr0 hc0;have HENV := Aside0.mk henv;clear henv;have HB := Aside0.mk (Below.refl w.heap.size w);have H : ((laws_szShipS.f l0 1048576).bind fun t101 => (if t101 < 0 then (some true) else ((laws_toShipS.f k l0).bind fun t102 => ((spec_LineText.f k t102).bind fun t105 => ((laws_toShipS.f k l0).bind fun t106 => ((impl_LineText.f k t106).bind fun t109 => (if t109.toList = t105.toList then ((laws_toShipS.f k l0).bind fun t110 => ((laws_eqShipS.f k t106 t110).bind fun t113 => (if t113 = true then (some true) else (some false)))) else (some false)))))))) = some r := h;clear h;replace H := Option.bind_eq_some_iff.mp H;obtain ⟨t101,A20,H⟩ := H;replace H : (if t101 < 0 then (some true) else ((laws_toShipS.f k l0).bind fun t102 => ((spec_LineText.f k t102).bind fun t105 => ((laws_toShipS.f k l0).bind fun t106 => ((impl_LineText.f k t106).bind fun t109 => (if t109.toList = t105.toList then ((laws_toShipS.f k l0).bind fun t110 => ((laws_eqShipS.f k t106 t110).bind fun t113 => (if t113 = true then (some true) else (some false)))) else (some false))))))) = some r := H;have A2 := Aside0.mk A20;clear A20
 by_cases c3 : t101 < 0
 ·rw [if_pos c3] at H;have c3b0 : decide (t101 < 0) = true := decide_eq_true c3;clear c3;obtain rfl := Option.some.inj H
  go_enter Tryd.func3,Tryd.ntmps3
  go_wp2_with (first | ((with_reducible refine gate_callee (f := 4) rfl ?_);refine goesL_ (some 9) rfl rfl Tryd.func4 (by kernel_rfl) rfl #[.slice A0 l0.length c0,.int .i64 1048576] rfl (by (try simp only [List.map_toArray,List.map_cons,List.map_nil]);first | done | rfl | (simp only [List.length_drop,List.length_take];rfl)) ?_;(with_reducible refine (laws_szShipS.calls _ _ l0 1048576 t101 _ ?side1 ?side2 A2.out).mono ?_);(case side1 => repeat (first | exact HR0.out | (with_reducible refine Kd.C_alloc ?_ _) | (with_reducible refine Kd.C_drewN ?_ _) | (with_reducible refine Kd.C_drew ?_)));(case side2 => exact HC0.out);rintro e w' ⟨rfl,⟨nd,rfl⟩⟩;refine ⟨_,rfl,?_⟩))
  go_ret
  exact ⟨by first | rfl | (simp [errW_none,errW_some,IntKind.wrap_i64,wrap64];done) | (simp [errW_none,errW_some] <;> rfl) | (simp [*,errW_none,errW_some] <;> rfl),by repeat (first | (with_reducible first | exact HB.out | apply below_alloc | apply pw_below_drewN | apply below_drew1) | exact HB.out)⟩
 ·rw [if_neg c3] at H;have c3b0 : decide (t101 < 0) = false := decide_eq_false c3;clear c3;replace H := Option.bind_eq_some_iff.mp H;obtain ⟨t102,A40,H⟩ := H;replace H : ((spec_LineText.f k t102).bind fun t105 => ((laws_toShipS.f k l0).bind fun t106 => ((impl_LineText.f k t106).bind fun t109 => (if t109.toList = t105.toList then ((laws_toShipS.f k l0).bind fun t110 => ((laws_eqShipS.f k t106 t110).bind fun t113 => (if t113 = true then (some true) else (some false)))) else (some false))))) = some r := H;have A4 := Aside0.mk A40;clear A40;replace H := Option.bind_eq_some_iff.mp H;obtain ⟨t105,A50,H⟩ := H;replace H : ((laws_toShipS.f k l0).bind fun t106 => ((impl_LineText.f k t106).bind fun t109 => (if t109.toList = t105.toList then ((laws_toShipS.f k l0).bind fun t110 => ((laws_eqShipS.f k t106 t110).bind fun t113 => (if t113 = true then (some true) else (some false)))) else (some false)))) = some r := H;have A5 := Aside0.mk A50;clear A50;replace H := Option.bind_eq_some_iff.mp H;obtain ⟨t106,A60,H⟩ := H;replace H : ((impl_LineText.f k t106).bind fun t109 => (if t109.toList = t105.toList then ((laws_toShipS.f k l0).bind fun t110 => ((laws_eqShipS.f k t106 t110).bind fun t113 => (if t113 = true then (some true) else (some false)))) else (some false))) = some r := H;have A6 := Aside0.mk A60;clear A60;replace H := Option.bind_eq_some_iff.mp H;obtain ⟨t109,A70,H⟩ := H;replace H : (if t109.toList = t105.toList then ((laws_toShipS.f k l0).bind fun t110 => ((laws_eqShipS.f k t106 t110).bind fun t113 => (if t113 = true then (some true) else (some false)))) else (some false)) = some r := H;have A7 := Aside0.mk A70;clear A70
  by_cases c8 : t109.toList = t105.toList
  ·rw [if_pos c8] at H;have c8b0 : (t109.toList == t105.toList) = true := beq_iff_eq.mpr c8;have c8b1 : (t109.toList != t105.toList) = false := bne_eq_false_iff_eq.mpr c8;clear c8;replace H := Option.bind_eq_some_iff.mp H;obtain ⟨t110,A90,H⟩ := H;replace H : ((laws_eqShipS.f k t106 t110).bind fun t113 => (if t113 = true then (some true) else (some false))) = some r := H;have A9 := Aside0.mk A90;clear A90;replace H := Option.bind_eq_some_iff.mp H;obtain ⟨t113,A100,H⟩ := H;replace H : (if t113 = true then (some true) else (some false)) = some r := H;have A10 := Aside0.mk A100;clear A100
   by_cases c11 : t113 = true
   ·subst c11
    have H1 : (some true) = some r := by rw [if_pos rfl] at H;exact H
    clear H;have H := H1;clear H1;obtain rfl := Option.some.inj H
    go_enter Tryd.func3,Tryd.ntmps3
    go_wp2_with (first | ((with_reducible refine gate_callee (f := 4) rfl ?_);refine goesL_ (some 9) rfl rfl Tryd.func4 (by kernel_rfl) rfl #[.slice A0 l0.length c0,.int .i64 1048576] rfl (by (try simp only [List.map_toArray,List.map_cons,List.map_nil]);first | done | rfl | (simp only [List.length_drop,List.length_take];rfl)) ?_;(with_reducible refine (laws_szShipS.calls _ _ l0 1048576 t101 _ ?side1 ?side2 A2.out).mono ?_);(case side1 => repeat (first | exact HR0.out | (with_reducible refine Kd.C_alloc ?_ _) | (with_reducible refine Kd.C_drewN ?_ _) | (with_reducible refine Kd.C_drew ?_)));(case side2 => exact HC0.out);rintro e w' ⟨rfl,⟨nd,rfl⟩⟩;refine ⟨_,rfl,?_⟩) | ((with_reducible refine gate_callee (f := 6) rfl ?_);refine goesL_ (some 13) rfl rfl Tryd.func6 (by kernel_rfl) rfl #[.slice A0 l0.length c0] rfl (by (try simp only [List.map_toArray,List.map_cons,List.map_nil]);first | done | rfl | (simp only [List.length_drop,List.length_take];rfl)) ?_;(with_reducible refine (laws_toShipS.calls k _ _ l0 t102 _ ?side1 ?side2 A4.out).mono ?_);(case side1 => repeat (first | exact HR0.out | (with_reducible refine Kd.C_alloc ?_ _) | (with_reducible refine Kd.C_drewN ?_ _) | (with_reducible refine Kd.C_drew ?_)));(case side2 => exact HC0.out);rintro e w12 ⟨v103,rfl,ho0,hb⟩;refine ⟨_,rfl,?_⟩;have n0_ := Aside0.mk (Kd.R_lower ho0 (below_size (by repeat (first | (with_reducible first | exact HB.out | apply below_alloc | apply pw_below_drewN | apply below_drew1) | exact HB.out))));have n1_ := Aside0.mk (below_step (by repeat (first | (with_reducible first | exact HB.out | apply below_alloc | apply pw_below_drewN | apply below_drew1) | exact HB.out)) hb);clear HB;have HO104 := n0_;have HB := n1_;clear n0_ n1_;(try clear hb);(try clear hb2);(try clear hk);(try clear hi);(try clear ho0);obtain ⟨Ao13,co13,eo13⟩ := Kd.R_slice HO104.out;subst eo13) | ((with_reducible refine gate_callee (f := 5) rfl ?_);refine goesL_ (some 14) rfl rfl Tryd.func5 (by kernel_rfl) rfl #[.slice Ao13 t102.length co13] rfl (by (try simp only [List.map_toArray,List.map_cons,List.map_nil]);first | done | rfl | (simp only [List.length_drop,List.length_take];rfl)) ?_;(with_reducible refine (spec_LineText.calls k _ _ t102 t105 _ ?side1 ?side2 A5.out).mono ?_);(case side1 => repeat (first | exact (Kd.R_reads' HO104.out).2.2 | (with_reducible refine Kd.C_alloc ?_ _) | (with_reducible refine Kd.C_drewN ?_ _) | (with_reducible refine Kd.C_drew ?_)));(case side2 => exact (Kd.R_reads' HO104.out).2.1);rintro e w14 ⟨rfl,hb⟩;refine ⟨_,rfl,?_⟩;have n0_ := Aside0.mk (Kd.R_below (by (with_reducible repeat (first | apply Kd.R_alloc | apply Kd.R_drewN | apply Kd.R_drew));exact HO104.out) hb);have n1_ := Aside0.mk (below_step (by repeat (first | (with_reducible first | exact HB.out | apply below_alloc | apply pw_below_drewN | apply below_drew1) | exact HB.out)) hb);clear HO104;clear HB;have HO104 := n0_;have HB := n1_;clear n0_ n1_;(try clear hb);(try clear hb2);(try clear hk);(try clear hi)) | ((with_reducible refine gate_callee (f := 6) rfl ?_);refine goesL_ (some 16) rfl rfl Tryd.func6 (by kernel_rfl) rfl #[.slice A0 l0.length c0] rfl (by (try simp only [List.map_toArray,List.map_cons,List.map_nil]);first | done | rfl | (simp only [List.length_drop,List.length_take];rfl)) ?_;(with_reducible refine (laws_toShipS.calls k _ _ l0 t106 _ ?side1 ?side2 A6.out).mono ?_);(case side1 => repeat (first | exact (Kd.C_below HR0.out HB.out) | (with_reducible refine Kd.C_alloc ?_ _) | (with_reducible refine Kd.C_drewN ?_ _) | (with_reducible refine Kd.C_drew ?_)));(case side2 => exact HC0.out);rintro e w15 ⟨v107,rfl,ho0,hb⟩;refine ⟨_,rfl,?_⟩;have n0_ := Aside0.mk (Kd.R_elder' (by (with_reducible repeat (first | apply Kd.R_alloc | apply Kd.R_drewN | apply Kd.R_drew));exact HO104.out) (Kd.R_base ho0) hb);have n1_ := Aside0.mk (Kd.R_lower (Kd.R_new' ho0 (Kd.R_lt (by (with_reducible repeat (first | apply Kd.R_alloc | apply Kd.R_drewN | apply Kd.R_drew));exact HO104.out))) (below_size (by repeat (first | (with_reducible first | exact HB.out | apply below_alloc | apply pw_below_drewN | apply below_drew1) | exact HB.out))));have n2_ := Aside0.mk (below_step (by repeat (first | (with_reducible first | exact HB.out | apply below_alloc | apply pw_below_drewN | apply below_drew1) | exact HB.out)) hb);clear HO104;clear HB;have HO104 := n0_;have HO108 := n1_;have HB := n2_;clear n0_ n1_ n2_;(try clear hb);(try clear hb2);(try clear hk);(try clear hi);(try clear ho0);obtain ⟨Ao16,co16,eo16⟩ := Kd.R_slice HO108.out;subst eo16) | ((with_reducible refine gate_callee (f := 7) rfl ?_);refine goesL_ (some 18) rfl rfl Tryd.func7 (by kernel_rfl) rfl #[.slice Ao16 t106.length co16] rfl (by (try simp only [List.map_toArray,List.map_cons,List.map_nil]);first | done | rfl | (simp only [List.length_drop,List.length_take];rfl)) ?_;(with_reducible refine (impl_LineText.calls k _ _ t106 t109 _ ?side1 ?side2 ?side3 A7.out).mono ?_);(case side1 => repeat (first | exact (Kd.R_reads' HO108.out).2.2 | (with_reducible refine Kd.C_alloc ?_ _) | (with_reducible refine Kd.C_drewN ?_ _) | (with_reducible refine Kd.C_drew ?_)));(case side2 => exact (Kd.R_reads' HO108.out).2.1);(case side3 => exact Env_on HENV.out (by repeat (first | (with_reducible first | exact HB.out | apply below_alloc | apply pw_below_drewN | apply below_drew1) | exact HB.out)));rintro e w17 ⟨rfl,hb⟩;refine ⟨_,rfl,?_⟩;have n0_ := Aside0.mk (Kd.R_below (by (with_reducible repeat (first | apply Kd.R_alloc | apply Kd.R_drewN | apply Kd.R_drew));exact HO104.out) hb);have n1_ := Aside0.mk (Kd.R_below (by (with_reducible repeat (first | apply Kd.R_alloc | apply Kd.R_drewN | apply Kd.R_drew));exact HO108.out) hb);have n2_ := Aside0.mk (below_step (by repeat (first | (with_reducible first | exact HB.out | apply below_alloc | apply pw_below_drewN | apply below_drew1) | exact HB.out)) hb);clear HO104;clear HO108;clear HB;have HO104 := n0_;have HO108 := n1_;have HB := n2_;clear n0_ n1_ n2_;(try clear hb);(try clear hb2);(try clear hk);(try clear hi)) | ((with_reducible refine gate_callee (f := 6) rfl ?_);refine goesL_ (some 24) rfl rfl Tryd.func6 (by kernel_rfl) rfl #[.slice A0 l0.length c0] rfl (by (try simp only [List.map_toArray,List.map_cons,List.map_nil]);first | done | rfl | (simp only [List.length_drop,List.length_take];rfl)) ?_;(with_reducible refine (laws_toShipS.calls k _ _ l0 t110 _ ?side1 ?side2 A9.out).mono ?_);(case side1 => repeat (first | exact (Kd.C_below HR0.out HB.out) | (with_reducible refine Kd.C_alloc ?_ _) | (with_reducible refine Kd.C_drewN ?_ _) | (with_reducible refine Kd.C_drew ?_)));(case side2 => exact HC0.out);rintro e w18 ⟨v111,rfl,ho0,hb⟩;refine ⟨_,rfl,?_⟩;have n0_ := Aside0.mk (Kd.R_elder' (by (with_reducible repeat (first | apply Kd.R_alloc | apply Kd.R_drewN | apply Kd.R_drew));exact HO104.out) (Kd.R_base ho0) hb);have n1_ := Aside0.mk (Kd.R_elder' (by (with_reducible repeat (first | apply Kd.R_alloc | apply Kd.R_drewN | apply Kd.R_drew));exact HO108.out) (Kd.R_base ho0) hb);have n2_ := Aside0.mk (Kd.R_lower (Kd.R_new' (Kd.R_new' ho0 (Kd.R_lt (by (with_reducible repeat (first | apply Kd.R_alloc | apply Kd.R_drewN | apply Kd.R_drew));exact HO104.out))) (Kd.R_lt (by (with_reducible repeat (first | apply Kd.R_alloc | apply Kd.R_drewN | apply Kd.R_drew));exact HO108.out))) (below_size (by repeat (first | (with_reducible first | exact HB.out | apply below_alloc | apply pw_below_drewN | apply below_drew1) | exact HB.out))));have n3_ := Aside0.mk (below_step (by repeat (first | (with_reducible first | exact HB.out | apply below_alloc | apply pw_below_drewN | apply below_drew1) | exact HB.out)) hb);clear HO104;clear HO108;clear HB;have HO104 := n0_;have HO108 := n1_;have HO112 := n2_;have HB := n3_;clear n0_ n1_ n2_ n3_;(try clear hb);(try clear hb2);(try clear hk);(try clear hi);(try clear ho0);obtain ⟨Ao19,co19,eo19⟩ := Kd.R_slice HO112.out;subst eo19) | ((with_reducible refine gate_callee (f := 8) rfl ?_);refine goesL_ (some 25) rfl rfl Tryd.func8 (by kernel_rfl) rfl #[.slice Ao16 t106.length co16,.slice Ao19 t110.length co19] rfl (by (try simp only [List.map_toArray,List.map_cons,List.map_nil]);first | done | rfl | (simp only [List.length_drop,List.length_take];rfl)) ?_;(with_reducible refine (laws_eqShipS.calls k _ _ t106 _ _ t110 true _ ?side1 ?side2 ?side3 ?side4 A10.out).mono ?_);(case side1 => repeat (first | exact (Kd.R_reads' HO108.out).2.2 | (with_reducible refine Kd.C_alloc ?_ _) | (with_reducible refine Kd.C_drewN ?_ _) | (with_reducible refine Kd.C_drew ?_)));(case side2 => exact (Kd.R_reads' HO108.out).2.1);(case side3 => repeat (first | exact (Kd.R_reads' HO112.out).2.2 | (with_reducible refine Kd.C_alloc ?_ _) | (with_reducible refine Kd.C_drewN ?_ _) | (with_reducible refine Kd.C_drew ?_)));(case side4 => exact (Kd.R_reads' HO112.out).2.1);rintro e w20 ⟨rfl,hb⟩;refine ⟨_,rfl,?_⟩;have n0_ := Aside0.mk (Kd.R_below (by (with_reducible repeat (first | apply Kd.R_alloc | apply Kd.R_drewN | apply Kd.R_drew));exact HO104.out) hb);have n1_ := Aside0.mk (Kd.R_below (by (with_reducible repeat (first | apply Kd.R_alloc | apply Kd.R_drewN | apply Kd.R_drew));exact HO108.out) hb);have n2_ := Aside0.mk (Kd.R_below (by (with_reducible repeat (first | apply Kd.R_alloc | apply Kd.R_drewN | apply Kd.R_drew));exact HO112.out) hb);have n3_ := Aside0.mk (below_step (by repeat (first | (with_reducible first | exact HB.out | apply below_alloc | apply pw_below_drewN | apply below_drew1) | exact HB.out)) hb);clear HO104;clear HO108;clear HO112;clear HB;have HO104 := n0_;have HO108 := n1_;have HO112 := n2_;have HB := n3_;clear n0_ n1_ n2_ n3_;(try clear hb);(try clear hb2);(try clear hk);(try clear hi)))
    go_ret
    exact ⟨by first | rfl | (simp [errW_none,errW_some,IntKind.wrap_i64,wrap64];done) | (simp [errW_none,errW_some] <;> rfl) | (simp [*,errW_none,errW_some] <;> rfl),by repeat (first | (with_reducible first | exact HB.out | apply below_alloc | apply pw_below_drewN | apply below_drew1) | exact HB.out)⟩
   ·replace c11 := Bool.eq_false_iff.mpr c11;subst c11
    have H1 : (some false) = some r := by rw [if_neg (show ¬ (false = true) by decide)] at H;exact H
    clear H;have H := H1;clear H1;obtain rfl := Option.some.inj H
    go_enter Tryd.func3,Tryd.ntmps3
    go_wp2_with (first | ((with_reducible refine gate_callee (f := 4) rfl ?_);refine goesL_ (some 9) rfl rfl Tryd.func4 (by kernel_rfl) rfl #[.slice A0 l0.length c0,.int .i64 1048576] rfl (by (try simp only [List.map_toArray,List.map_cons,List.map_nil]);first | done | rfl | (simp only [List.length_drop,List.length_take];rfl)) ?_;(with_reducible refine (laws_szShipS.calls _ _ l0 1048576 t101 _ ?side1 ?side2 A2.out).mono ?_);(case side1 => repeat (first | exact HR0.out | (with_reducible refine Kd.C_alloc ?_ _) | (with_reducible refine Kd.C_drewN ?_ _) | (with_reducible refine Kd.C_drew ?_)));(case side2 => exact HC0.out);rintro e w' ⟨rfl,⟨nd,rfl⟩⟩;refine ⟨_,rfl,?_⟩) | ((with_reducible refine gate_callee (f := 6) rfl ?_);refine goesL_ (some 13) rfl rfl Tryd.func6 (by kernel_rfl) rfl #[.slice A0 l0.length c0] rfl (by (try simp only [List.map_toArray,List.map_cons,List.map_nil]);first | done | rfl | (simp only [List.length_drop,List.length_take];rfl)) ?_;(with_reducible refine (laws_toShipS.calls k _ _ l0 t102 _ ?side1 ?side2 A4.out).mono ?_);(case side1 => repeat (first | exact HR0.out | (with_reducible refine Kd.C_alloc ?_ _) | (with_reducible refine Kd.C_drewN ?_ _) | (with_reducible refine Kd.C_drew ?_)));(case side2 => exact HC0.out);rintro e w21 ⟨v103,rfl,ho0,hb⟩;refine ⟨_,rfl,?_⟩;have n0_ := Aside0.mk (Kd.R_lower ho0 (below_size (by repeat (first | (with_reducible first | exact HB.out | apply below_alloc | apply pw_below_drewN | apply below_drew1) | exact HB.out))));have n1_ := Aside0.mk (below_step (by repeat (first | (with_reducible first | exact HB.out | apply below_alloc | apply pw_below_drewN | apply below_drew1) | exact HB.out)) hb);clear HB;have HO104 := n0_;have HB := n1_;clear n0_ n1_;(try clear hb);(try clear hb2);(try clear hk);(try clear hi);(try clear ho0);obtain ⟨Ao22,co22,eo22⟩ := Kd.R_slice HO104.out;subst eo22) | ((with_reducible refine gate_callee (f := 5) rfl ?_);refine goesL_ (some 14) rfl rfl Tryd.func5 (by kernel_rfl) rfl #[.slice Ao22 t102.length co22] rfl (by (try simp only [List.map_toArray,List.map_cons,List.map_nil]);first | done | rfl | (simp only [List.length_drop,List.length_take];rfl)) ?_;(with_reducible refine (spec_LineText.calls k _ _ t102 t105 _ ?side1 ?side2 A5.out).mono ?_);(case side1 => repeat (first | exact (Kd.R_reads' HO104.out).2.2 | (with_reducible refine Kd.C_alloc ?_ _) | (with_reducible refine Kd.C_drewN ?_ _) | (with_reducible refine Kd.C_drew ?_)));(case side2 => exact (Kd.R_reads' HO104.out).2.1);rintro e w23 ⟨rfl,hb⟩;refine ⟨_,rfl,?_⟩;have n0_ := Aside0.mk (Kd.R_below (by (with_reducible repeat (first | apply Kd.R_alloc | apply Kd.R_drewN | apply Kd.R_drew));exact HO104.out) hb);have n1_ := Aside0.mk (below_step (by repeat (first | (with_reducible first | exact HB.out | apply below_alloc | apply pw_below_drewN | apply below_drew1) | exact HB.out)) hb);clear HO104;clear HB;have HO104 := n0_;have HB := n1_;clear n0_ n1_;(try clear hb);(try clear hb2);(try clear hk);(try clear hi)) | ((with_reducible refine gate_callee (f := 6) rfl ?_);refine goesL_ (some 16) rfl rfl Tryd.func6 (by kernel_rfl) rfl #[.slice A0 l0.length c0] rfl (by (try simp only [List.map_toArray,List.map_cons,List.map_nil]);first | done | rfl | (simp only [List.length_drop,List.length_take];rfl)) ?_;(with_reducible refine (laws_toShipS.calls k _ _ l0 t106 _ ?side1 ?side2 A6.out).mono ?_);(case side1 => repeat (first | exact (Kd.C_below HR0.out HB.out) | (with_reducible refine Kd.C_alloc ?_ _) | (with_reducible refine Kd.C_drewN ?_ _) | (with_reducible refine Kd.C_drew ?_)));(case side2 => exact HC0.out);rintro e w24 ⟨v107,rfl,ho0,hb⟩;refine ⟨_,rfl,?_⟩;have n0_ := Aside0.mk (Kd.R_elder' (by (with_reducible repeat (first | apply Kd.R_alloc | apply Kd.R_drewN | apply Kd.R_drew));exact HO104.out) (Kd.R_base ho0) hb);have n1_ := Aside0.mk (Kd.R_lower (Kd.R_new' ho0 (Kd.R_lt (by (with_reducible repeat (first | apply Kd.R_alloc | apply Kd.R_drewN | apply Kd.R_drew));exact HO104.out))) (below_size (by repeat (first | (with_reducible first | exact HB.out | apply below_alloc | apply pw_below_drewN | apply below_drew1) | exact HB.out))));have n2_ := Aside0.mk (below_step (by repeat (first | (with_reducible first | exact HB.out | apply below_alloc | apply pw_below_drewN | apply below_drew1) | exact HB.out)) hb);clear HO104;clear HB;have HO104 := n0_;have HO108 := n1_;have HB := n2_;clear n0_ n1_ n2_;(try clear hb);(try clear hb2);(try clear hk);(try clear hi);(try clear ho0);obtain ⟨Ao25,co25,eo25⟩ := Kd.R_slice HO108.out;subst eo25) | ((with_reducible refine gate_callee (f := 7) rfl ?_);refine goesL_ (some 18) rfl rfl Tryd.func7 (by kernel_rfl) rfl #[.slice Ao25 t106.length co25] rfl (by (try simp only [List.map_toArray,List.map_cons,List.map_nil]);first | done | rfl | (simp only [List.length_drop,List.length_take];rfl)) ?_;(with_reducible refine (impl_LineText.calls k _ _ t106 t109 _ ?side1 ?side2 ?side3 A7.out).mono ?_);(case side1 => repeat (first | exact (Kd.R_reads' HO108.out).2.2 | (with_reducible refine Kd.C_alloc ?_ _) | (with_reducible refine Kd.C_drewN ?_ _) | (with_reducible refine Kd.C_drew ?_)));(case side2 => exact (Kd.R_reads' HO108.out).2.1);(case side3 => exact Env_on HENV.out (by repeat (first | (with_reducible first | exact HB.out | apply below_alloc | apply pw_below_drewN | apply below_drew1) | exact HB.out)));rintro e w26 ⟨rfl,hb⟩;refine ⟨_,rfl,?_⟩;have n0_ := Aside0.mk (Kd.R_below (by (with_reducible repeat (first | apply Kd.R_alloc | apply Kd.R_drewN | apply Kd.R_drew));exact HO104.out) hb);have n1_ := Aside0.mk (Kd.R_below (by (with_reducible repeat (first | apply Kd.R_alloc | apply Kd.R_drewN | apply Kd.R_drew));exact HO108.out) hb);have n2_ := Aside0.mk (below_step (by repeat (first | (with_reducible first | exact HB.out | apply below_alloc | apply pw_below_drewN | apply below_drew1) | exact HB.out)) hb);clear HO104;clear HO108;clear HB;have HO104 := n0_;have HO108 := n1_;have HB := n2_;clear n0_ n1_ n2_;(try clear hb);(try clear hb2);(try clear hk);(try clear hi)) | ((with_reducible refine gate_callee (f := 6) rfl ?_);refine goesL_ (some 24) rfl rfl Tryd.func6 (by kernel_rfl) rfl #[.slice A0 l0.length c0] rfl (by (try simp only [List.map_toArray,List.map_cons,List.map_nil]);first | done | rfl | (simp only [List.length_drop,List.length_take];rfl)) ?_;(with_reducible refine (laws_toShipS.calls k _ _ l0 t110 _ ?side1 ?side2 A9.out).mono ?_);(case side1 => repeat (first | exact (Kd.C_below HR0.out HB.out) | (with_reducible refine Kd.C_alloc ?_ _) | (with_reducible refine Kd.C_drewN ?_ _) | (with_reducible refine Kd.C_drew ?_)));(case side2 => exact HC0.out);rintro e w27 ⟨v111,rfl,ho0,hb⟩;refine ⟨_,rfl,?_⟩;have n0_ := Aside0.mk (Kd.R_elder' (by (with_reducible repeat (first | apply Kd.R_alloc | apply Kd.R_drewN | apply Kd.R_drew));exact HO104.out) (Kd.R_base ho0) hb);have n1_ := Aside0.mk (Kd.R_elder' (by (with_reducible repeat (first | apply Kd.R_alloc | apply Kd.R_drewN | apply Kd.R_drew));exact HO108.out) (Kd.R_base ho0) hb);have n2_ := Aside0.mk (Kd.R_lower (Kd.R_new' (Kd.R_new' ho0 (Kd.R_lt (by (with_reducible repeat (first | apply Kd.R_alloc | apply Kd.R_drewN | apply Kd.R_drew));exact HO104.out))) (Kd.R_lt (by (with_reducible repeat (first | apply Kd.R_alloc | apply Kd.R_drewN | apply Kd.R_drew));exact HO108.out))) (below_size (by repeat (first | (with_reducible first | exact HB.out | apply below_alloc | apply pw_below_drewN | apply below_drew1) | exact HB.out))));have n3_ := Aside0.mk (below_step (by repeat (first | (with_reducible first | exact HB.out | apply below_alloc | apply pw_below_drewN | apply below_drew1) | exact HB.out)) hb);clear HO104;clear HO108;clear HB;have HO104 := n0_;have HO108 := n1_;have HO112 := n2_;have HB := n3_;clear n0_ n1_ n2_ n3_;(try clear hb);(try clear hb2);(try clear hk);(try clear hi);(try clear ho0);obtain ⟨Ao28,co28,eo28⟩ := Kd.R_slice HO112.out;subst eo28) | ((with_reducible refine gate_callee (f := 8) rfl ?_);refine goesL_ (some 25) rfl rfl Tryd.func8 (by kernel_rfl) rfl #[.slice Ao25 t106.length co25,.slice Ao28 t110.length co28] rfl (by (try simp only [List.map_toArray,List.map_cons,List.map_nil]);first | done | rfl | (simp only [List.length_drop,List.length_take];rfl)) ?_;(with_reducible refine (laws_eqShipS.calls k _ _ t106 _ _ t110 false _ ?side1 ?side2 ?side3 ?side4 A10.out).mono ?_);(case side1 => repeat (first | exact (Kd.R_reads' HO108.out).2.2 | (with_reducible refine Kd.C_alloc ?_ _) | (with_reducible refine Kd.C_drewN ?_ _) | (with_reducible refine Kd.C_drew ?_)));(case side2 => exact (Kd.R_reads' HO108.out).2.1);(case side3 => repeat (first | exact (Kd.R_reads' HO112.out).2.2 | (with_reducible refine Kd.C_alloc ?_ _) | (with_reducible refine Kd.C_drewN ?_ _) | (with_reducible refine Kd.C_drew ?_)));(case side4 => exact (Kd.R_reads' HO112.out).2.1);rintro e w29 ⟨rfl,hb⟩;refine ⟨_,rfl,?_⟩;have n0_ := Aside0.mk (Kd.R_below (by (with_reducible repeat (first | apply Kd.R_alloc | apply Kd.R_drewN | apply Kd.R_drew));exact HO104.out) hb);have n1_ := Aside0.mk (Kd.R_below (by (with_reducible repeat (first | apply Kd.R_alloc | apply Kd.R_drewN | apply Kd.R_drew));exact HO108.out) hb);have n2_ := Aside0.mk (Kd.R_below (by (with_reducible repeat (first | apply Kd.R_alloc | apply Kd.R_drewN | apply Kd.R_drew));exact HO112.out) hb);have n3_ := Aside0.mk (below_step (by repeat (first | (with_reducible first | exact HB.out | apply below_alloc | apply pw_below_drewN | apply below_drew1) | exact HB.out)) hb);clear HO104;clear HO108;clear HO112;clear HB;have HO104 := n0_;have HO108 := n1_;have HO112 := n2_;have HB := n3_;clear n0_ n1_ n2_ n3_;(try clear hb);(try clear hb2);(try clear hk);(try clear hi)))
    go_ret
    exact ⟨by first | rfl | (simp [errW_none,errW_some,IntKind.wrap_i64,wrap64];done) | (simp [errW_none,errW_some] <;> rfl) | (simp [*,errW_none,errW_some] <;> rfl),by repeat (first | (with_reducible first | exact HB.out | apply below_alloc | apply pw_below_drewN | apply below_drew1) | exact HB.out)⟩
  ·rw [if_neg c8] at H;have c8b0 : (t109.toList == t105.toList) = false := beq_eq_false_iff_ne.mpr c8;have c8b1 : (t109.toList != t105.toList) = true := bne_iff_ne.mpr c8;obtain rfl := Option.some.inj H
   go_enter Tryd.func3,Tryd.ntmps3
   go_wp2_with (first | ((with_reducible refine gate_callee (f := 4) rfl ?_);refine goesL_ (some 9) rfl rfl Tryd.func4 (by kernel_rfl) rfl #[.slice A0 l0.length c0,.int .i64 1048576] rfl (by (try simp only [List.map_toArray,List.map_cons,List.map_nil]);first | done | rfl | (simp only [List.length_drop,List.length_take];rfl)) ?_;(with_reducible refine (laws_szShipS.calls _ _ l0 1048576 t101 _ ?side1 ?side2 A2.out).mono ?_);(case side1 => repeat (first | exact HR0.out | (with_reducible refine Kd.C_alloc ?_ _) | (with_reducible refine Kd.C_drewN ?_ _) | (with_reducible refine Kd.C_drew ?_)));(case side2 => exact HC0.out);rintro e w' ⟨rfl,⟨nd,rfl⟩⟩;refine ⟨_,rfl,?_⟩) | ((with_reducible refine gate_callee (f := 6) rfl ?_);refine goesL_ (some 13) rfl rfl Tryd.func6 (by kernel_rfl) rfl #[.slice A0 l0.length c0] rfl (by (try simp only [List.map_toArray,List.map_cons,List.map_nil]);first | done | rfl | (simp only [List.length_drop,List.length_take];rfl)) ?_;(with_reducible refine (laws_toShipS.calls k _ _ l0 t102 _ ?side1 ?side2 A4.out).mono ?_);(case side1 => repeat (first | exact HR0.out | (with_reducible refine Kd.C_alloc ?_ _) | (with_reducible refine Kd.C_drewN ?_ _) | (with_reducible refine Kd.C_drew ?_)));(case side2 => exact HC0.out);rintro e w30 ⟨v103,rfl,ho0,hb⟩;refine ⟨_,rfl,?_⟩;have n0_ := Aside0.mk (Kd.R_lower ho0 (below_size (by repeat (first | (with_reducible first | exact HB.out | apply below_alloc | apply pw_below_drewN | apply below_drew1) | exact HB.out))));have n1_ := Aside0.mk (below_step (by repeat (first | (with_reducible first | exact HB.out | apply below_alloc | apply pw_below_drewN | apply below_drew1) | exact HB.out)) hb);clear HB;have HO104 := n0_;have HB := n1_;clear n0_ n1_;(try clear hb);(try clear hb2);(try clear hk);(try clear hi);(try clear ho0);obtain ⟨Ao31,co31,eo31⟩ := Kd.R_slice HO104.out;subst eo31) | ((with_reducible refine gate_callee (f := 5) rfl ?_);refine goesL_ (some 14) rfl rfl Tryd.func5 (by kernel_rfl) rfl #[.slice Ao31 t102.length co31] rfl (by (try simp only [List.map_toArray,List.map_cons,List.map_nil]);first | done | rfl | (simp only [List.length_drop,List.length_take];rfl)) ?_;(with_reducible refine (spec_LineText.calls k _ _ t102 t105 _ ?side1 ?side2 A5.out).mono ?_);(case side1 => repeat (first | exact (Kd.R_reads' HO104.out).2.2 | (with_reducible refine Kd.C_alloc ?_ _) | (with_reducible refine Kd.C_drewN ?_ _) | (with_reducible refine Kd.C_drew ?_)));(case side2 => exact (Kd.R_reads' HO104.out).2.1);rintro e w32 ⟨rfl,hb⟩;refine ⟨_,rfl,?_⟩;have n0_ := Aside0.mk (Kd.R_below (by (with_reducible repeat (first | apply Kd.R_alloc | apply Kd.R_drewN | apply Kd.R_drew));exact HO104.out) hb);have n1_ := Aside0.mk (below_step (by repeat (first | (with_reducible first | exact HB.out | apply below_alloc | apply pw_below_drewN | apply below_drew1) | exact HB.out)) hb);clear HO104;clear HB;have HO104 := n0_;have HB := n1_;clear n0_ n1_;(try clear hb);(try clear hb2);(try clear hk);(try clear hi)) | ((with_reducible refine gate_callee (f := 6) rfl ?_);refine goesL_ (some 16) rfl rfl Tryd.func6 (by kernel_rfl) rfl #[.slice A0 l0.length c0] rfl (by (try simp only [List.map_toArray,List.map_cons,List.map_nil]);first | done | rfl | (simp only [List.length_drop,List.length_take];rfl)) ?_;(with_reducible refine (laws_toShipS.calls k _ _ l0 t106 _ ?side1 ?side2 A6.out).mono ?_);(case side1 => repeat (first | exact (Kd.C_below HR0.out HB.out) | (with_reducible refine Kd.C_alloc ?_ _) | (with_reducible refine Kd.C_drewN ?_ _) | (with_reducible refine Kd.C_drew ?_)));(case side2 => exact HC0.out);rintro e w33 ⟨v107,rfl,ho0,hb⟩;refine ⟨_,rfl,?_⟩;have n0_ := Aside0.mk (Kd.R_elder' (by (with_reducible repeat (first | apply Kd.R_alloc | apply Kd.R_drewN | apply Kd.R_drew));exact HO104.out) (Kd.R_base ho0) hb);have n1_ := Aside0.mk (Kd.R_lower (Kd.R_new' ho0 (Kd.R_lt (by (with_reducible repeat (first | apply Kd.R_alloc | apply Kd.R_drewN | apply Kd.R_drew));exact HO104.out))) (below_size (by repeat (first | (with_reducible first | exact HB.out | apply below_alloc | apply pw_below_drewN | apply below_drew1) | exact HB.out))));have n2_ := Aside0.mk (below_step (by repeat (first | (with_reducible first | exact HB.out | apply below_alloc | apply pw_below_drewN | apply below_drew1) | exact HB.out)) hb);clear HO104;clear HB;have HO104 := n0_;have HO108 := n1_;have HB := n2_;clear n0_ n1_ n2_;(try clear hb);(try clear hb2);(try clear hk);(try clear hi);(try clear ho0);obtain ⟨Ao34,co34,eo34⟩ := Kd.R_slice HO108.out;subst eo34) | ((with_reducible refine gate_callee (f := 7) rfl ?_);refine goesL_ (some 18) rfl rfl Tryd.func7 (by kernel_rfl) rfl #[.slice Ao34 t106.length co34] rfl (by (try simp only [List.map_toArray,List.map_cons,List.map_nil]);first | done | rfl | (simp only [List.length_drop,List.length_take];rfl)) ?_;(with_reducible refine (impl_LineText.calls k _ _ t106 t109 _ ?side1 ?side2 ?side3 A7.out).mono ?_);(case side1 => repeat (first | exact (Kd.R_reads' HO108.out).2.2 | (with_reducible refine Kd.C_alloc ?_ _) | (with_reducible refine Kd.C_drewN ?_ _) | (with_reducible refine Kd.C_drew ?_)));(case side2 => exact (Kd.R_reads' HO108.out).2.1);(case side3 => exact Env_on HENV.out (by repeat (first | (with_reducible first | exact HB.out | apply below_alloc | apply pw_below_drewN | apply below_drew1) | exact HB.out)));rintro e w35 ⟨rfl,hb⟩;refine ⟨_,rfl,?_⟩;have n0_ := Aside0.mk (Kd.R_below (by (with_reducible repeat (first | apply Kd.R_alloc | apply Kd.R_drewN | apply Kd.R_drew));exact HO104.out) hb);have n1_ := Aside0.mk (Kd.R_below (by (with_reducible repeat (first | apply Kd.R_alloc | apply Kd.R_drewN | apply Kd.R_drew));exact HO108.out) hb);have n2_ := Aside0.mk (below_step (by repeat (first | (with_reducible first | exact HB.out | apply below_alloc | apply pw_below_drewN | apply below_drew1) | exact HB.out)) hb);clear HO104;clear HO108;clear HB;have HO104 := n0_;have HO108 := n1_;have HB := n2_;clear n0_ n1_ n2_;(try clear hb);(try clear hb2);(try clear hk);(try clear hi)))
   go_ret
   exact ⟨by first | rfl | (simp [errW_none,errW_some,IntKind.wrap_i64,wrap64];done) | (simp [errW_none,errW_some] <;> rfl) | (simp [*,errW_none,errW_some] <;> rfl),by repeat (first | (with_reducible first | exact HB.out | apply below_alloc | apply pw_below_drewN | apply below_drew1) | exact HB.out)⟩
end Go.Proofs.YtiknpcbmcipbcaaDoor.G
end

section
namespace Go.Proofs.YtiknpcbmcipbcaaDoor.G
open Go.RowKit Go.Proofs.YtiknpcbmcipbcaaDoorW.PrintWords Go.Proofs.YtiknpcbmcipbcaaDoorW.PrintLast Go.Proofs.YtiknpcbmcipbcaaDoorW.PrintMore
attribute [local go_sem] max2_int min2_int max_two min_two max_three min_three max_four min_four
set_option linter.unusedVariables false
set_option linter.unusedSimpArgs false
open Go.ChangeShapes Go.WideShapes Go.Deep in
structure Opens {α : Type} (P : Program) (t : TypeId) (d : Kd α) (Wf : α → Prop) : Prop where
  sz : P.cellsOf t = d.sz
  op : ∀ {H : Type} {enc : TypeId × Value → H} {w : World} {base : Nat} {spare : Nat → Bool} {held : Bool} {fuel : Nat} {cs : List Value} {x : DataW H × List MemPlace}, DataW.trod enc P w base spare held fuel t cs = some x → ∃ a : α, d.K w a cs ∧ Wf a
theorem opens_int {P : Program} {t : TypeId} {k : IntKind} (ht : P.underlying t = some (.int k)) (hC : P.cellsOf t = 1) : Opens P t (Kd.int k) (fun n => (Lit.int k n).wf = true) where
  sz := hC
  op := fun h => by
    obtain ⟨n, rfl, _, hw⟩ := DataW.trod_int ht h
    exact ⟨n, rfl, hw⟩
theorem list_of {α : Type} {Q : Nat → α → Prop} : ∀ n, (∀ i, i < n → ∃ y, Q i y) → ∃ l : List α, l.length = n ∧ ∀ i y, l[i]? = some y → Q i y
  | 0, _ => ⟨[], rfl, fun i y h => by simp at h⟩
  | n + 1, h => by
    obtain ⟨l, hl, hq⟩ := list_of n (fun i hi => h i (by omega))
    obtain ⟨y, hy⟩ := h n (by omega)
    refine ⟨l ++ [y], by simp [hl], fun i z hz => ?_⟩
    rcases Nat.lt_or_ge i l.length with hi | hi
    · rw [List.getElem?_append_left hi] at hz
      exact hq i z hz
    · rw [List.getElem?_append_right hi] at hz
      have : i - l.length = 0 := by
        rcases Nat.eq_zero_or_pos (i - l.length) with h0 | h0
        · exact h0
        · rw [List.getElem?_eq_none (by simp; omega)] at hz
          cases hz
      rw [this] at hz
      have e : y = z := by simpa using hz
      subst e
      have : i = n := by omega
      subst this
      exact hy
theorem opens_slice {α : Type} {P : Program} {t e : TypeId} {d : Kd α} {Wf : α → Prop} (ht : P.underlying t = some (.slice e)) (hC : P.cellsOf t = 1) (he : Opens P e d Wf) : Opens P t (Kd.slice e d) (fun l => l.length ≤ 9223372036854775807 ∧ ∀ x ∈ l, Wf x) where
  sz := hC
  op := fun {H enc w base spare held fuel cs x} h => by
    rcases Go.Deep.open_slice ht h with ⟨rfl, _⟩ | ⟨a, len, cap, m, n, D, Pl, rfl, hb, hl, hm, hmm, _, hi⟩
    · exact ⟨[], ⟨none, 0, rfl, Nat.le_refl _, rfl, by simp, fun h => absurd h (by simp)⟩, by simp, by simp⟩
    · have hlen : len ≤ m := by rw [hmm]; split <;> omega
      obtain ⟨l, hll, hq⟩ := list_of (Q := fun i y => (∃ c, c.length = d.sz ∧ d.K w y c ∧ ∀ j u, c[j]? = some u → w.cell? (a.add (i * d.sz + j)) = some u) ∧ Wf y) len (fun i him => by
        obtain ⟨cs', hc, ht'⟩ := hi i (by omega)
        obtain ⟨y, hK, hW⟩ := he.op ht'
        obtain ⟨_, hcl, hat⟩ := World.cells?_some hc
        refine ⟨y, ⟨cs', d.K_len hK, hK, fun j u hu => ?_⟩, hW⟩
        have hj : j < cs'.length := (List.getElem?_eq_some_iff.1 hu).1
        have h1 := hat j (by rw [he.sz, ← d.K_len hK]; exact hj)
        rw [← he.sz, ← Go.Deep.add_add, h1, hu])
      refine ⟨l, ⟨some a, cap, by rw [hll], by rw [hll]; exact hl, rfl, by rw [hll]; have := hm; unfold maxLen at this; omega, fun _ => ⟨a, rfl, fun j p hj => (hq j p hj).1⟩⟩, by rw [hll]; have := hm; unfold maxLen at this; omega, fun y hy => ?_⟩
      obtain ⟨j, hj, rfl⟩ := List.mem_iff_getElem.1 hy
      exact (hq j _ (List.getElem?_eq_getElem hj)).2
def offs (P : Program) : List TypeId → Nat → Nat
  | [], _ => 0
  | _ :: _, 0 => 0
  | t :: ts, i + 1 => P.cellsOf t + offs P ts i
def OpensF {α : Type} (P : Program) (ts : List TypeId) (d : Kd α) (Wf : α → Prop) : Prop :=
  ∀ {H : Type} {enc : TypeId × Value → H} {w : World} {base : Nat} {spare : Nat → Bool} {held : Bool} {n : Nat} {cs : List Value}, cs.length = d.sz → (∀ i t, ts[i]? = some t → ∃ x, DataW.trod enc P w base spare held n t ((cs.drop (offs P ts i)).take (P.cellsOf t)) = some x) → ∃ a : α, d.K w a cs ∧ Wf a
theorem opensF_one {α : Type} {P : Program} {t : TypeId} {d : Kd α} {Wf : α → Prop} (h : Opens P t d Wf) : OpensF P [t] d Wf := fun {H enc w base spare held n cs} hl hf => by
  obtain ⟨x, hx⟩ := hf 0 t rfl
  simp only [offs, List.drop_zero] at hx
  rw [List.take_of_length_le (by rw [hl, h.sz]; exact Nat.le_refl _)] at hx
  exact h.op hx
theorem opensF_cons {α β : Type} {P : Program} {t : TypeId} {ts : List TypeId} {d : Kd α} {d' : Kd β} {Wf : α → Prop} {Wf' : β → Prop} (h : Opens P t d Wf) (h' : OpensF P ts d' Wf') : OpensF P (t :: ts) (Kd.pair d d') (fun x => Wf x.1 ∧ Wf' x.2) := fun {H enc w base spare held n cs} hl hf => by
  have hl' : cs.length = d.sz + d'.sz := hl
  obtain ⟨x, hx⟩ := hf 0 t rfl
  simp only [offs, List.drop_zero] at hx
  obtain ⟨a, hK, hW⟩ := h.op hx
  obtain ⟨b, hK', hW'⟩ := h' (enc := enc) (w := w) (base := base) (spare := spare) (held := held) (n := n) (cs := cs.drop d.sz) (by rw [List.length_drop, hl']; omega) (fun i t' ht' => by
    obtain ⟨y, hy⟩ := hf (i + 1) t' (by simpa using ht')
    refine ⟨y, ?_⟩
    rw [List.drop_drop]
    simpa only [offs, h.sz] using hy)
  refine ⟨(a, b), ⟨_, _, (List.take_append_drop d.sz cs).symm, ?_, hK'⟩, hW, hW'⟩
  rw [← h.sz]
  exact hK
theorem opens_struct {α β : Type} {P : Program} {t : TypeId} {fs : Array Field} {d : Kd α} {Wf : α → Prop} (f : β → α) (g : α → β) (hfg : ∀ a, f (g a) = a) (ht : P.underlying t = some (.struct fs)) (hC : P.cellsOf t = d.sz)
    (ho : ((List.range fs.size).all fun i => decide ((fs[i]?.map Field.offset) = some (offs P (fs.toList.map Field.type) i))) = true) (h : OpensF P (fs.toList.map Field.type) d Wf) : Opens P t (Kd.iso d f) (fun x => Wf (f x)) where
  sz := hC
  op := fun {H enc w base spare held fuel cs x} hx => by
    obtain ⟨xs, n, _, _, hlen, hxl, hf⟩ := DataW.trod_struct ht hx
    obtain ⟨a, hK, hW⟩ := h (enc := enc) (w := w) (base := base) (spare := spare) (held := held) (n := n) (cs := cs) (by rw [hlen, hC]) (fun i t' ht' => by
      have hi : i < fs.size := by
        have := (List.getElem?_eq_some_iff.1 ht').1
        simpa using this
      have e : fs[i]? = some fs[i] := Array.getElem?_eq_getElem hi
      have et : fs[i].type = t' := by
        rw [List.getElem?_map] at ht'
        have : fs.toList[i]? = some fs[i] := by simp [hi]
        rw [this] at ht'
        simpa using ht'
      have eo := of_decide_eq_true (List.all_eq_true.1 ho i (List.mem_range.2 hi))
      rw [e] at eo
      have eo' : fs[i].offset = offs P (fs.toList.map Field.type) i := by simpa using eo
      have h1 := hf i fs[i] e
      rw [et, eo'] at h1
      exact ⟨_, h1.trans (List.getElem?_eq_getElem (show i < xs.length by omega))⟩)
    exact ⟨g a, by show d.K w (f (g a)) cs; rw [hfg]; exact hK, by show Wf (f (g a)); rw [hfg]; exact hW⟩
theorem op30 : Opens Tryd.prog 30 (Kd.int .i8) (fun x : Int => (Lit.int .i8 x).wf = true) := opens_int (k := .i8) Tryd.underlying30 (by kernel_rfl)
theorem op34 : Opens Tryd.prog 34 k34 (fun x : S34 => (Lit.int .i8 x.f0).wf = true ∧ (Lit.int .i8 x.f1).wf = true ∧ (Lit.int .i8 x.f2).wf = true) := opens_struct (fun x : S34 => (x.f0, x.f1, x.f2)) (fun a => ⟨a.1, a.2.1, a.2.2⟩) (fun _ => rfl) Tryd.underlying34 (by kernel_rfl) (by kernel_rfl) (opensF_cons op30 (opensF_cons op30 (opensF_one op30)))
theorem op22 : Opens Tryd.prog 22 (Kd.slice 34 k34) (fun x : List (S34) => (x.length ≤ 9223372036854775807 ∧ ∀ x_ ∈ x, (Lit.int .i8 x_.f0).wf = true ∧ (Lit.int .i8 x_.f1).wf = true ∧ (Lit.int .i8 x_.f2).wf = true)) := opens_slice Tryd.underlying22 (by kernel_rfl) op34
end Go.Proofs.YtiknpcbmcipbcaaDoor.G
end

section
namespace Go.Proofs.YtiknpcbmcipbcaaDoor.G.Pure
open Go.RowKit Go.Proofs.YtiknpcbmcipbcaaDoor.G Go.Proofs.YtiknpcbmcipbcaaDoorW.PrintWords Go.Proofs.YtiknpcbmcipbcaaDoorW.PrintLast Go.Proofs.YtiknpcbmcipbcaaDoorW.PrintMore
set_option linter.unusedVariables false
set_option linter.unusedSimpArgs false
theorem join_snoc (xs : List (List UInt8)) (y sep : List UInt8) (h : xs ≠ []) : Lib.join (xs ++ [y]) sep = Lib.join xs sep ++ (sep ++ y) := by
  cases xs with
  | nil => exact absurd rfl h
  | cons x r =>
    rw [List.cons_append, Lib.join_cons, Lib.join_cons]
    simp [Lib.joinTail]
theorem joinTail_le (m c : Nat) (sep : List UInt8) (hs : sep.length ≤ c) : ∀ r : List (List UInt8), (∀ x ∈ r, x.length ≤ m) → (Lib.joinTail sep r).length ≤ (m + c) * r.length
  | [], _ => by simp [Lib.joinTail]
  | x :: r, h => by
    have h1 := joinTail_le m c sep hs r (fun y hy => h y (List.mem_cons_of_mem _ hy))
    have h2 := h x List.mem_cons_self
    have e : Lib.joinTail sep (x :: r) = (sep ++ x) ++ Lib.joinTail sep r := by simp [Lib.joinTail]
    rw [e, List.length_append, List.length_append, List.length_cons, Nat.mul_succ]
    omega
theorem join_le (m c : Nat) (sep : List UInt8) (hs : sep.length ≤ c) (xs : List (List UInt8)) (h : ∀ x ∈ xs, x.length ≤ m) : (Lib.join xs sep).length ≤ (m + c) * xs.length := by
  cases xs with
  | nil => simp [Lib.join_nil]
  | cons x r =>
    have h1 := joinTail_le m c sep hs r (fun y hy => h y (List.mem_cons_of_mem _ hy))
    have h2 := h x List.mem_cons_self
    rw [Lib.join_cons, List.length_append, List.length_cons, Nat.mul_succ]
    omega
end Go.Proofs.YtiknpcbmcipbcaaDoor.G.Pure
end

section
namespace Go.Proofs.YtiknpcbmcipbcaaDoor.G.Pure
open Go.RowKit Go.Proofs.YtiknpcbmcipbcaaDoor.G Go.Proofs.YtiknpcbmcipbcaaDoorW.PrintWords Go.Proofs.YtiknpcbmcipbcaaDoorW.PrintLast Go.Proofs.YtiknpcbmcipbcaaDoorW.PrintMore
set_option linter.unusedVariables false
set_option linter.unusedSimpArgs false
def jtxt {α : Type} (f : α → List UInt8) (l : List α) : List UInt8 := Lib.join (l.map f) [32]
theorem jtxt_le {α : Type} (f : α → List UInt8) (m : Nat) (l : List α) (h : ∀ x ∈ l, (f x).length ≤ m) : (jtxt f l).length ≤ (m + 1) * l.length := by
  have := join_le m 1 [32] (by simp) (l.map f) (fun y hy => by
    obtain ⟨x, hx, rfl⟩ := List.mem_map.1 hy
    exact h x hx)
  simpa [jtxt] using this
theorem jtxt_succ {α : Type} {f : α → List UInt8} {l : List α} {i : Nat} (hi : i < l.length) (h0 : 0 < i) : jtxt f (l.take (i + 1)) = jtxt f (l.take i) ++ ([32] ++ f l[i]) := by
  unfold jtxt
  rw [List.take_succ_eq_append_getElem hi, List.map_append, List.map_cons, List.map_nil, join_snoc _ _ _ (by
    intro e
    have := congrArg List.length e
    simp only [List.length_map, List.length_take, List.length_nil] at this
    omega)]
theorem jtxt_first {α : Type} {f : α → List UInt8} {l : List α} (hi : 0 < l.length) : jtxt f (l.take 1) = f l[0] := by
  cases l with
  | nil => simp at hi
  | cons x r => simp [jtxt, Lib.join_one]
end Go.Proofs.YtiknpcbmcipbcaaDoor.G.Pure
end

section
namespace Go.Proofs.YtiknpcbmcipbcaaDoor.G.Pure
open Go.RowKit Go.Proofs.YtiknpcbmcipbcaaDoor.G Go.Proofs.YtiknpcbmcipbcaaDoorW.PrintWords Go.Proofs.YtiknpcbmcipbcaaDoorW.PrintLast Go.Proofs.YtiknpcbmcipbcaaDoorW.PrintMore
set_option linter.unusedVariables false
set_option linter.unusedSimpArgs false
theorem w64 {n : Int} (h0 : -9223372036854775808 ≤ n) (h1 : n ≤ 9223372036854775807) : wrap64 n = n := by
  unfold wrap64
  omega
theorem i8b {n : Int} (h : (Lit.int .i8 n).wf = true) : -128 ≤ n ∧ n ≤ 127 := by
  simp [Lit.wf, IntKind.min, IntKind.max, IntKind.signed, IntKind.bits] at h
  omega
theorem loop_inv {σ γ : Type} (L : Nat → σ → Option γ) (n : Nat) (I : Nat → σ → Prop) (R : γ → Prop)
    (hs : ∀ k i s, i < n → I i s → (∃ s', I (i + 1) s' ∧ L (k + 1) s = L k s') ∨ (∃ r, R r ∧ L (k + 1) s = some r))
    (he : ∀ k s, I n s → ∃ r, R r ∧ L (k + 1) s = some r) : ∀ k s, I 0 s → n < k → ∃ r, R r ∧ L k s = some r := by
  have go : ∀ d i k s, i + d = n → I i s → d < k → ∃ r, R r ∧ L k s = some r := by
    intro d
    induction d with
    | zero =>
      intro i k s hi hI hk
      obtain ⟨k, rfl⟩ : ∃ m, k = m + 1 := ⟨k - 1, by omega⟩
      obtain rfl : i = n := by omega
      exact he k s hI
    | succ d ih =>
      intro i k s hi hI hk
      obtain ⟨k, rfl⟩ : ∃ m, k = m + 1 := ⟨k - 1, by omega⟩
      rcases hs k i s (by omega) hI with ⟨s', hI', h⟩ | h
      · rw [h]
        exact ih (i + 1) k s' (by omega) hI' (by omega)
      · exact h
  intro k s hI hk
  exact go n 0 k s (by omega) hI hk
theorem take_set_succ {α : Type} {l : List α} {i : Nat} (h : i < l.length) (v : α) : (l.set i v).take (i + 1) = l.take i ++ [v] := by
  rw [List.take_succ_eq_append_getElem (by simpa using h)]
  simp [List.take_set_of_le]
end Go.Proofs.YtiknpcbmcipbcaaDoor.G.Pure
end

section
namespace Go.Proofs.YtiknpcbmcipbcaaDoor.G.Pure
open Go.RowKit Go.Proofs.YtiknpcbmcipbcaaDoor.G Go.Proofs.YtiknpcbmcipbcaaDoorW.PrintWords Go.Proofs.YtiknpcbmcipbcaaDoorW.PrintLast Go.Proofs.YtiknpcbmcipbcaaDoorW.PrintMore
set_option linter.unusedVariables false
set_option linter.unusedSimpArgs false
theorem loop_inv2 {σ γ : Type} (L : Nat → σ → Option γ) (n K0 : Nat) (I : Nat → σ → Prop) (R : γ → Prop)
    (hs : ∀ k i s, i < n → K0 ≤ k → I i s → (∃ s', I (i + 1) s' ∧ L (k + 1) s = L k s') ∨ (∃ r, R r ∧ L (k + 1) s = some r))
    (he : ∀ k s, K0 ≤ k → I n s → ∃ r, R r ∧ L (k + 1) s = some r) : ∀ k s, I 0 s → n + K0 < k → ∃ r, R r ∧ L k s = some r := by
  have go : ∀ d i k s, i + d = n → I i s → d + K0 < k → ∃ r, R r ∧ L k s = some r := by
    intro d
    induction d with
    | zero =>
      intro i k s hi hI hk
      obtain ⟨k, rfl⟩ : ∃ m, k = m + 1 := ⟨k - 1, by omega⟩
      obtain rfl : i = n := by omega
      exact he k s (by omega) hI
    | succ d ih =>
      intro i k s hi hI hk
      obtain ⟨k, rfl⟩ : ∃ m, k = m + 1 := ⟨k - 1, by omega⟩
      rcases hs k i s (by omega) (by omega) hI with ⟨s', hI', h⟩ | h
      · rw [h]
        exact ih (i + 1) k s' (by omega) hI' (by omega)
      · exact h
  intro k s hI hk
  exact go n 0 k s (by omega) hI (by omega)
end Go.Proofs.YtiknpcbmcipbcaaDoor.G.Pure
end

section
namespace Go.Proofs.YtiknpcbmcipbcaaDoor.G.Pure
open Go.RowKit Go.Proofs.YtiknpcbmcipbcaaDoor.G Go.Proofs.YtiknpcbmcipbcaaDoorW.PrintWords Go.Proofs.YtiknpcbmcipbcaaDoorW.PrintLast Go.Proofs.YtiknpcbmcipbcaaDoorW.PrintMore
set_option linter.unusedVariables false
set_option linter.unusedSimpArgs false
abbrev bs (l : List UInt8) : ByteArray := ⟨l.toArray⟩
theorem bs_append (l m : List UInt8) : bs l ++ bs m = bs (l ++ m) := by
  apply ByteArray.ext
  simp [bs]
theorem bs_size (l : List UInt8) : (bs l).size = l.length := by simp [bs, ByteArray.size]
theorem digit_eq {n : Nat} (h : n < 10) : strOfNums [(wrap64 (48 + (n : Int))) % 256] = bs [UInt8.ofNat (48 + n)] := by
  rw [w64 (by omega) (by omega)]
  unfold strOfNums bs
  simp only [List.map_cons, List.map_nil]
  have : (((48 + (n : Int)) % 256)).toNat = 48 + n := by omega
  rw [this]
theorem dec_len (k : Nat) : ∀ n : Nat, n < 10 ^ (k + 1) → (Lib.decDigits n).length ≤ k + 1 := by
  induction k with
  | zero =>
    intro n h
    rw [Lib.decDigits_one (by omega)]
    simp
  | succ k ih =>
    intro n h
    by_cases h1 : n < 10
    · rw [Lib.decDigits_one h1]
      simp
    · rw [Lib.decDigits, dif_neg h1, List.length_append]
      have := ih (n / 10) (by rw [Nat.pow_succ] at h; omega)
      simp
      omega
theorem dec_eq_ (k : Nat) : ∀ n : Nat, n < 10 ^ (k + 1) → n ≤ 9223372036854775807 → k ≤ 1000000000000 → spec_Decimal.f (k + 1) (n : Int) = some (bs (Lib.decDigits n)) := by
  induction k with
  | zero =>
    intro n h h1 hk
    simp only [spec_Decimal.f]
    have e : Int.tmod (n : Int) 10 = ((n : Nat) : Int) := by rw [Int.tmod_eq_emod_of_nonneg (by omega)]; omega
    rw [if_pos (by omega), e, digit_eq (by omega), Lib.decDigits_one (by omega)]
  | succ k ih =>
    intro n h h1 hk
    simp only [spec_Decimal.f]
    have e : Int.tmod (n : Int) 10 = ((n % 10 : Nat) : Int) := by rw [Int.tmod_eq_emod_of_nonneg (by omega)]; omega
    rw [e, digit_eq (by omega)]
    by_cases h2 : n < 10
    · rw [if_pos (by omega), Lib.decDigits_one h2, Nat.mod_eq_of_lt h2]
    · have e2 : Int.tdiv (n : Int) 10 = ((n / 10 : Nat) : Int) := by rw [Int.tdiv_eq_ediv_of_nonneg (by omega)]; omega
      have h3 : n / 10 < 10 ^ (k + 1) := by rw [Nat.pow_succ] at h; omega
      have hl := dec_len k (n / 10) h3
      have e3 := ih (n / 10) h3 (by omega) (by omega)
      simp only [spec_Decimal.f] at e3
      rw [if_neg (by omega), e2, w64 (by omega) (by omega), e3]
      simp only [Option.bind_some]
      rw [digit_eq (by omega), bs_size, bs_size, if_pos (by simp; omega), bs_append]
      congr 2
      conv => rhs; rw [Lib.decDigits, dif_neg h2]
theorem dec_eq {K n : Nat} (h : n < 1000000000000000000) (hK : 18 ≤ K) (hK1 : K ≤ 1000000000000) : spec_Decimal.f K (n : Int) = some (bs (Lib.itoa (n : Int))) := by
  obtain ⟨k, rfl⟩ : ∃ k, K = k + 1 := ⟨K - 1, by omega⟩
  have h1 : 10 ^ 18 ≤ 10 ^ (k + 1) := Nat.pow_le_pow_right (by omega) hK
  rw [dec_eq_ k n (by omega) (by omega) (by omega)]
  unfold Lib.itoa
  rw [if_neg (by omega)]
  rfl
theorem itoa_len {n : Nat} (h : n < 1000000000000000000) : (Lib.itoa (n : Int)).length ≤ 18 := by
  unfold Lib.itoa
  rw [if_neg (by omega)]
  exact dec_len 17 n (by omega)
theorem itoa_nn {x : Int} (h0 : 0 ≤ x) (h1 : x < 1000000000000000000) : (Lib.itoa x).length ≤ 18 := by
  obtain ⟨n, rfl⟩ : ∃ n : Nat, x = (n : Int) := ⟨x.toNat, by omega⟩
  exact itoa_len (by omega)
theorem dec_int {K : Nat} {x : Int} (h0 : 0 ≤ x) (h1 : x < 1000000000000000000) (hK : 18 ≤ K) (hK1 : K ≤ 1000000000000) : spec_Decimal.f K x = some (bs (Lib.itoa x)) := by
  obtain ⟨n, rfl⟩ : ∃ n : Nat, x = (n : Int) := ⟨x.toNat, by omega⟩
  exact dec_eq (by omega) hK hK1
theorem dec_impl_int {x : Int} (h0 : 0 ≤ x) (h1 : x < 1000000000000000000) : impl_decimal.f x = some (bs (Lib.itoa x)) := by
  unfold impl_decimal.f
  rw [if_pos (by omega), if_pos (by omega)]
end Go.Proofs.YtiknpcbmcipbcaaDoor.G.Pure
end

section
namespace Go.Proofs.YtiknpcbmcipbcaaDoor.G.Pure
open Go.RowKit Go.Proofs.YtiknpcbmcipbcaaDoor.G Go.Proofs.YtiknpcbmcipbcaaDoorW.PrintWords Go.Proofs.YtiknpcbmcipbcaaDoorW.PrintLast Go.Proofs.YtiknpcbmcipbcaaDoorW.PrintMore
set_option linter.unusedVariables false
set_option linter.unusedSimpArgs false
abbrev Sp := S32
theorem rd_impl_Ship {l : List (S32)} {i : Nat} (h : i < l.length) : rd_T32 l (i : Int) = l[i] := by
  simp [rd_T32, List.getD_eq_getElem?_getD, List.getElem?_eq_getElem h]
end Go.Proofs.YtiknpcbmcipbcaaDoor.G.Pure
end

section
namespace Go.Proofs.YtiknpcbmcipbcaaDoor.G.Pure
open Go.RowKit Go.Proofs.YtiknpcbmcipbcaaDoor.G Go.Proofs.YtiknpcbmcipbcaaDoorW.PrintWords Go.Proofs.YtiknpcbmcipbcaaDoorW.PrintLast Go.Proofs.YtiknpcbmcipbcaaDoorW.PrintMore
set_option linter.unusedVariables false
set_option linter.unusedSimpArgs false
def shipTxt (x : Sp) : List UInt8 := Lib.itoa x.f0 ++ [47] ++ Lib.itoa x.f1 ++ [47] ++ Lib.itoa x.f2
def okShip (x : Sp) : Prop := (0 ≤ x.f0 ∧ x.f0 ≤ 127) ∧ (0 ≤ x.f1 ∧ x.f1 ≤ 127) ∧ (0 ≤ x.f2 ∧ x.f2 ≤ 127)
theorem shipTxt_le {x : Sp} (h : okShip x) : (shipTxt x).length ≤ 56 := by
  obtain ⟨⟨h0, h1⟩, ⟨h2, h3⟩, ⟨h4, h5⟩⟩ := h
  have := itoa_nn h0 (by omega)
  have := itoa_nn h2 (by omega)
  have := itoa_nn h4 (by omega)
  unfold shipTxt
  simp only [List.length_append, List.length_singleton]
  omega
theorem specLineTxt (l : List Sp) (hl : l.length ≤ 20) (hb : ∀ x ∈ l, okShip x) (K : Nat) (hK : 100 ≤ K) (hK1 : K ≤ 1000000000) : spec_l06Text.f K l = some (bs (jtxt shipTxt l)) := by
  unfold spec_l06Text.f
  obtain ⟨r, hr, h⟩ := loop_inv2 (fun k (s : ByteArray × Int × Nat) => if k ≤ 1000000000 then spec_l06Text.l0 k l s.1 s.2.1 else some (bs (jtxt shipTxt l))) l.length 50 (fun i s => s.2.1 = (i : Int) ∧ s.1 = bs (jtxt shipTxt (l.take i))) (fun r => r = bs (jtxt shipTxt l))
    (fun k i s hi hk ⟨h1, h2⟩ => by
      obtain ⟨acc, x, u⟩ := s
      simp only at h1 h2
      subst h1 h2
      by_cases hk1 : k + 1 ≤ 1000000000
      · rw [if_pos hk1]
        have hx := hb _ (List.getElem_mem hi)
        have hlx := shipTxt_le hx
        obtain ⟨⟨h0, h1⟩, ⟨h2, h3⟩, ⟨h4, h5⟩⟩ := hx
        have htl := jtxt_le shipTxt 56 (l.take i) (fun y hy => shipTxt_le (hb y (List.mem_of_mem_take hy)))
        rw [List.length_take] at htl
        have l0_ := itoa_nn h0 (by omega)
        have l1_ := itoa_nn h2 (by omega)
        have l2_ := itoa_nn h4 (by omega)
        simp only [spec_l06Text.l0]
        rw [rd_impl_Ship hi, w64 (n := l[i].f0) (by omega) (by omega), w64 (n := l[i].f1) (by omega) (by omega), w64 (n := l[i].f2) (by omega) (by omega), dec_int (K := k) h0 (by omega) (by omega) (by omega), dec_int (K := k) h2 (by omega) (by omega) (by omega), dec_int (K := k) h4 (by omega) (by omega) (by omega)]
        simp only [Option.bind_some]
        rw [show (⟨#[47]⟩ : ByteArray) = bs [47] from rfl, show (⟨#[32]⟩ : ByteArray) = bs [32] from rfl]
        simp only [bs_append, bs_size, List.length_append, List.length_singleton]
        rw [if_pos (by omega)]
        by_cases hi0 : 0 < i
        · rw [if_pos (by omega), if_pos (by omega), if_pos (by omega), if_pos (by omega), if_pos (by omega), if_pos (by omega), if_pos (by omega), if_pos (by omega), w64 (by omega) (by omega)]
          refine .inl ⟨(bs (jtxt shipTxt (l.take (i + 1))), ((i + 1 : Nat) : Int), 0), ⟨rfl, rfl⟩, ?_⟩
          rw [if_pos (by omega), jtxt_succ hi hi0]
          unfold shipTxt
          simp only [List.append_assoc]
          rfl
        · obtain rfl : i = 0 := by omega
          rw [if_neg (by omega), if_pos (by omega), if_pos (by omega), if_pos (by omega), if_pos (by omega), if_pos (by omega), if_pos (by omega), w64 (by omega) (by omega)]
          refine .inl ⟨(bs (jtxt shipTxt (l.take 1)), ((0 + 1 : Nat) : Int), 0), ⟨rfl, rfl⟩, ?_⟩
          rw [if_pos (by omega), jtxt_first hi]
          unfold shipTxt
          simp only [List.append_assoc]
          rfl
      · rw [if_neg hk1]
        exact .inr ⟨_, rfl, rfl⟩)
    (fun k s hk ⟨h1, h2⟩ => by
      obtain ⟨acc, x, u⟩ := s
      simp only at h1 h2
      subst h1 h2
      refine ⟨bs (jtxt shipTxt l), rfl, ?_⟩
      by_cases hk1 : k + 1 ≤ 1000000000
      · rw [if_pos hk1]
        simp only [spec_l06Text.l0]
        rw [if_neg (by omega), List.take_of_length_le (Nat.le_refl _)]
      · rw [if_neg hk1]) K (⟨#[]⟩, 0, 0) ⟨rfl, rfl⟩ (by omega)
  rw [if_pos hK1] at h
  rw [h, hr]
theorem implLineTxt (l : List Sp) (hl : l.length ≤ 20) (hb : ∀ x ∈ l, okShip x) (K : Nat) (hK : 100 ≤ K) : impl_LineText.l0 K [] l (l.length : Int) 0 = some (bs (jtxt shipTxt l)) := by
  obtain ⟨r, hr, h⟩ := loop_inv (fun k (s : List ByteArray × Int) => impl_LineText.l0 k s.1 l (l.length : Int) s.2) l.length (fun i s => s.2 = (i : Int) ∧ s.1 = (l.take i).map (fun x => bs (shipTxt x))) (fun r => r = bs (jtxt shipTxt l))
    (fun k i s hi ⟨h1, h2⟩ => by
      obtain ⟨acc, x⟩ := s
      simp only at h1 h2
      subst h1 h2
      have hx := hb _ (List.getElem_mem hi)
      obtain ⟨⟨h0, h1⟩, ⟨h2, h3⟩, ⟨h4, h5⟩⟩ := hx
      have l0_ := itoa_nn h0 (by omega)
      have l1_ := itoa_nn h2 (by omega)
      have l2_ := itoa_nn h4 (by omega)
      simp only [impl_LineText.l0]
      rw [rd_impl_Ship hi, w64 (n := l[i].f0) (by omega) (by omega), w64 (n := l[i].f1) (by omega) (by omega), w64 (n := l[i].f2) (by omega) (by omega), dec_impl_int h0 (by omega), dec_impl_int h2 (by omega), dec_impl_int h4 (by omega)]
      simp only [Option.bind_some]
      rw [show (⟨#[47]⟩ : ByteArray) = bs [47] from rfl]
      simp only [bs_append, bs_size, List.length_append, List.length_singleton]
      rw [if_pos (by omega), if_pos (by omega), if_pos (by omega), if_pos (by omega), if_pos (by omega), if_pos (by omega), if_pos (by omega), if_pos (by simp; omega), w64 (by omega) (by omega)]
      refine .inl ⟨((l.take (i + 1)).map (fun x => bs (shipTxt x)), ((i + 1 : Nat) : Int)), ⟨rfl, rfl⟩, ?_⟩
      rw [List.take_succ_eq_append_getElem hi, List.map_append, List.map_cons, List.map_nil]
      rfl)
    (fun k s ⟨h1, h2⟩ => by
      obtain ⟨acc, x⟩ := s
      simp only at h1 h2
      subst h1 h2
      refine ⟨bs (jtxt shipTxt l), rfl, ?_⟩
      simp only [impl_LineText.l0]
      have htl := jtxt_le shipTxt 56 l (fun y hy => shipTxt_le (hb y hy))
      have e : (l.map (fun x => bs (shipTxt x))).map (fun b => b.data.toList) = l.map shipTxt := by simp [bs]
      rw [if_neg (by omega), List.take_of_length_le (Nat.le_refl _)]
      unfold strings_Join.f
      rw [if_pos (by simp; omega), e, show (⟨#[32]⟩ : ByteArray).data.toList = [32] from rfl, if_pos (by unfold jtxt at htl; omega)]
      rfl) K ([], 0) ⟨rfl, rfl⟩ (by omega)
  rw [h, hr]
end Go.Proofs.YtiknpcbmcipbcaaDoor.G.Pure
end

section
namespace Go.Proofs.YtiknpcbmcipbcaaDoor.G.Pure
open Go.RowKit Go.Proofs.YtiknpcbmcipbcaaDoor.G Go.Proofs.YtiknpcbmcipbcaaDoorW.PrintWords Go.Proofs.YtiknpcbmcipbcaaDoorW.PrintLast Go.Proofs.YtiknpcbmcipbcaaDoorW.PrintMore
set_option linter.unusedVariables false
set_option linter.unusedSimpArgs false
def shipOf (x : S34) : S32 := ⟨x.f0, x.f1, x.f2⟩
theorem szShipS_eq (l : List (S34)) (a : Int) (h0 : 0 ≤ a) (h1 : a ≤ 1048576) (hl : l.length ≤ 9223372036854775807) : laws_szShipS.f l a = some (if a - l.length < 0 then -1 else a - l.length) := by
  unfold laws_szShipS.f
  rw [w64 (by omega) (by omega)]
  split <;> rfl
theorem rd_laws_Ship {l : List (S34)} {i : Nat} (h : i < l.length) : rd_T34 l (i : Int) = l[i] := by
  simp [rd_T34, List.getD_eq_getElem?_getD, List.getElem?_eq_getElem h]
theorem toShipS_eq (k : Nat) (l : List (S34)) (hl : l.length ≤ 1048576) (hk : l.length < k) : laws_toShipS.f k l = some (l.map shipOf) := by
  unfold laws_toShipS.f
  rw [if_pos (by omega), if_pos (by omega)]
  obtain ⟨r, hr, h⟩ := loop_inv (fun k (s : List (S32) × Int) => laws_toShipS.l0 k l s.1 s.2) l.length (fun i s => s.2 = (i : Int) ∧ s.1.length = l.length ∧ s.1.take i = (l.map shipOf).take i) (fun r => r = l.map shipOf)
    (fun k i s hi ⟨h1, h2, h3⟩ => by
      obtain ⟨acc, x⟩ := s
      simp only at h1 h2 h3
      subst h1
      refine .inl ⟨(acc.set i (shipOf l[i]), ((i + 1 : Nat) : Int)), ⟨rfl, by simpa using h2, ?_⟩, ?_⟩
      · rw [take_set_succ (by omega), h3, List.take_succ_eq_append_getElem (by simpa using hi)]
        simp
      · simp only [laws_toShipS.l0]
        rw [if_pos (by omega), if_pos (by omega), rd_laws_Ship hi]
        simp only [laws_toShip.f, Option.bind_some]
        rw [if_pos (by omega), w64 (by omega) (by omega)]
        rfl)
    (fun k s ⟨h1, h2, h3⟩ => by
      obtain ⟨acc, x⟩ := s
      simp only at h1 h2 h3
      subst h1
      refine ⟨acc, ?_, ?_⟩
      · rw [List.take_of_length_le (by omega), List.take_of_length_le (by simp)] at h3
        exact h3
      · simp only [laws_toShipS.l0]
        rw [if_neg (by omega)]) k (List.replicate l.length z32, 0) ⟨rfl, by simp, by simp⟩ hk
  subst hr
  simpa using h
theorem eqShip_self (a : S32) : laws_eqShip.f a.f0 a.f1 a.f2 a.f0 a.f1 a.f2 = some true := by
  simp [laws_eqShip.f]
theorem eqShipS_self (k : Nat) (a : List (S32)) (hl : a.length ≤ 1048576) (hk : a.length < k) : laws_eqShipS.f k a a = some true := by
  unfold laws_eqShipS.f
  rw [if_pos rfl]
  obtain ⟨r, hr, h⟩ := loop_inv (fun k (s : Int) => laws_eqShipS.l0 k a a s) a.length (fun i s => s = (i : Int)) (fun r => r = true)
    (fun k i s hi h1 => by
      subst h1
      refine .inl ⟨((i + 1 : Nat) : Int), rfl, ?_⟩
      simp only [laws_eqShipS.l0]
      rw [if_pos (by omega), if_pos (by omega), if_pos (by omega), eqShip_self]
      simp only [Option.bind_some, if_true]
      rw [w64 (by omega) (by omega)]
      rfl)
    (fun k s h1 => by
      subst h1
      refine ⟨true, rfl, ?_⟩
      simp only [laws_eqShipS.l0]
      rw [if_neg (by omega)]) k 0 rfl hk
  subst hr
  exact h
end Go.Proofs.YtiknpcbmcipbcaaDoor.G.Pure
end

section
namespace Go.Proofs.YtiknpcbmcipbcaaDoor.G.Pure
open Go.RowKit Go.Proofs.YtiknpcbmcipbcaaDoor.G Go.Proofs.YtiknpcbmcipbcaaDoorW.PrintWords Go.Proofs.YtiknpcbmcipbcaaDoorW.PrintLast Go.Proofs.YtiknpcbmcipbcaaDoorW.PrintMore
set_option linter.unusedVariables false
set_option linter.unusedSimpArgs false
theorem szShipS_big {l : List (S34)} (hl : l.length ≤ 9223372036854775807) (h : ¬ l.length ≤ 1048576) : laws_szShipS.f l 1048576 = some (-1) := by
  rw [szShipS_eq _ _ (by omega) (by omega) hl, if_pos (by omega)]
theorem szShipS_small {l : List (S34)} (h : l.length ≤ 1048576) : ∃ n, laws_szShipS.f l 1048576 = some n ∧ ¬ n < 0 ∧ n = 1048576 - (l.length : Int) := by
  refine ⟨1048576 - l.length, ?_, by omega, rfl⟩
  rw [szShipS_eq _ _ (by omega) (by omega) (by omega), if_neg (by omega)]
end Go.Proofs.YtiknpcbmcipbcaaDoor.G.Pure
end

section
namespace Go.Proofs.YtiknpcbmcipbcaaDoor.G.Pure
open Go.RowKit Go.Proofs.YtiknpcbmcipbcaaDoor.G Go.Proofs.YtiknpcbmcipbcaaDoorW.PrintWords Go.Proofs.YtiknpcbmcipbcaaDoorW.PrintLast Go.Proofs.YtiknpcbmcipbcaaDoorW.PrintMore
set_option linter.unusedVariables false
set_option linter.unusedSimpArgs false
def wfShip (x : Sp) : Prop := (Lit.int .i8 x.f0).wf = true ∧ (Lit.int .i8 x.f1).wf = true ∧ (Lit.int .i8 x.f2).wf = true
def validB (l : List Sp) : Bool := decide (1 ≤ (l.length : Int)) && decide ((l.length : Int) ≤ 20) && !l.any shipBad
theorem implValid_eq (l : List Sp) : impl_ValidLine.f l = some (validB l) := rfl
theorem shipBad_wf {x : Sp} (h : wfShip x) : shipBad x = !(decide (0 ≤ x.f0) && decide (x.f0 ≤ 6) && (decide (0 ≤ x.f1) && decide (x.f1 ≤ 60)) && (decide (0 ≤ x.f2) && decide (x.f2 ≤ 60))) := by
  obtain ⟨h0, h1, h2⟩ := h
  have b0 := i8b h0
  have b1 := i8b h1
  have b2 := i8b h2
  unfold shipBad
  rw [w64 (n := x.f0) (by omega) (by omega), w64 (n := x.f1) (by omega) (by omega), w64 (n := x.f2) (by omega) (by omega)]
structure ValidL (l : List Sp) : Prop where
  pos : 1 ≤ l.length
  most : l.length ≤ 20
  ships : ∀ x ∈ l, 0 ≤ x.f0 ∧ x.f0 ≤ 6 ∧ 0 ≤ x.f1 ∧ x.f1 ≤ 60 ∧ 0 ≤ x.f2 ∧ x.f2 ≤ 60
theorem validB_iff {l : List Sp} (hw : ∀ x ∈ l, wfShip x) : validB l = true ↔ ValidL l := by
  constructor
  · intro h
    unfold validB at h
    simp only [Bool.and_eq_true, decide_eq_true_eq, Bool.not_eq_true', List.any_eq_false] at h
    obtain ⟨⟨h1, h2⟩, h3⟩ := h
    refine ⟨by omega, by omega, fun x hx => ?_⟩
    have h4 := h3 x hx
    rw [shipBad_wf (hw x hx)] at h4
    simp at h4
    omega
  · intro h
    unfold validB
    simp only [Bool.and_eq_true, decide_eq_true_eq, Bool.not_eq_true', List.any_eq_false]
    refine ⟨⟨by have := h.pos; omega, by have := h.most; omega⟩, fun x hx => ?_⟩
    rw [shipBad_wf (hw x hx)]
    have := h.ships x hx
    simp
    omega
theorem in_eq (n lo hi : Int) : spec_l00In.f n lo hi = some (decide (lo ≤ n) && decide (n ≤ hi)) := by
  unfold spec_l00In.f
  split
  · simp [*]
  · simp [*]
theorem specOk_eq (k : Nat) (l : List Sp) (hw : ∀ x ∈ l, wfShip x) (hl : l.length ≤ 1048576) (hk : l.length < k) : spec_l06Ok.f k l = some (validB l) := by
  unfold spec_l06Ok.f validB
  rw [in_eq]
  simp only [Option.bind_some]
  by_cases h0 : (decide (1 ≤ (l.length : Int)) && decide ((l.length : Int) ≤ 20)) = true
  · rw [if_pos h0, h0, Bool.true_and]
    obtain ⟨r, hr, h⟩ := loop_inv (fun k (s : Int) => spec_l06Ok.l0 k l s) l.length (fun i s => s = (i : Int) ∧ ∀ j (h : j < l.length), j < i → shipBad l[j] = false) (fun r => r = !l.any shipBad)
      (fun k i s hi ⟨h1, h2⟩ => by
        subst h1
        have hb := hw l[i] (List.getElem_mem hi)
        have hbad := shipBad_wf hb
        obtain ⟨b0, b1, b2⟩ := hb
        have b0 := i8b b0
        have b1 := i8b b1
        have b2 := i8b b2
        cases hq : shipBad l[i] with
        | true =>
          refine .inr ⟨false, ?_, ?_⟩
          · have : l.any shipBad = true := List.any_eq_true.2 ⟨l[i], List.getElem_mem hi, hq⟩
            rw [this]; rfl
          · simp only [spec_l06Ok.l0]
            rw [if_pos (by omega), if_pos (by omega), rd_impl_Ship hi, in_eq, in_eq, in_eq]
            rw [w64 (n := (l[i]).f0) (by omega) (by omega), w64 (n := (l[i]).f1) (by omega) (by omega), w64 (n := (l[i]).f2) (by omega) (by omega)]
            rw [hq] at hbad
            simp only [Option.bind_some]
            generalize (decide (0 ≤ (l[i]).f0) && decide ((l[i]).f0 ≤ 6)) = c0 at *
            generalize (decide (0 ≤ (l[i]).f1) && decide ((l[i]).f1 ≤ 60)) = c1 at *
            generalize (decide (0 ≤ (l[i]).f2) && decide ((l[i]).f2 ≤ 60)) = c2 at *
            cases c0 <;> cases c1 <;> cases c2 <;> first | (exfalso; revert hbad; decide) | rfl
        | false =>
          refine .inl ⟨((i + 1 : Nat) : Int), ⟨rfl, fun j hj hji => ?_⟩, ?_⟩
          · by_cases e : j = i
            · subst e; exact hq
            · exact h2 j hj (by omega)
          · simp only [spec_l06Ok.l0]
            rw [if_pos (by omega), if_pos (by omega), rd_impl_Ship hi, in_eq, in_eq, in_eq]
            rw [w64 (n := (l[i]).f0) (by omega) (by omega), w64 (n := (l[i]).f1) (by omega) (by omega), w64 (n := (l[i]).f2) (by omega) (by omega), w64 (n := (i : Int) + 1) (by omega) (by omega)]
            rw [hq] at hbad
            simp only [Option.bind_some]
            generalize (decide (0 ≤ (l[i]).f0) && decide ((l[i]).f0 ≤ 6)) = c0 at *
            generalize (decide (0 ≤ (l[i]).f1) && decide ((l[i]).f1 ≤ 60)) = c1 at *
            generalize (decide (0 ≤ (l[i]).f2) && decide ((l[i]).f2 ≤ 60)) = c2 at *
            cases c0 <;> cases c1 <;> cases c2 <;> first | (exfalso; revert hbad; decide) | rfl)
      (fun k s ⟨h1, h2⟩ => by
        subst h1
        refine ⟨true, ?_, ?_⟩
        · have : l.any shipBad = false := by
            rw [List.any_eq_false]
            intro x hx
            obtain ⟨j, hj, rfl⟩ := List.mem_iff_getElem.1 hx
            simp [h2 j hj hj]
          rw [this]; rfl
        · simp only [spec_l06Ok.l0]
          rw [if_neg (by omega)]) k 0 ⟨rfl, fun j _ h => absurd h (Nat.not_lt_zero _)⟩ hk
    subst hr
    exact h
  · rw [if_neg h0]
    simp only [Bool.not_eq_true] at h0
    rw [h0, Bool.false_and]
end Go.Proofs.YtiknpcbmcipbcaaDoor.G.Pure
end

section
namespace Go.Proofs.YtiknpcbmcipbcaaDoor.G.Pure
open Go.RowKit Go.Proofs.YtiknpcbmcipbcaaDoor.G Go.Proofs.YtiknpcbmcipbcaaDoorW.PrintWords Go.Proofs.YtiknpcbmcipbcaaDoorW.PrintLast Go.Proofs.YtiknpcbmcipbcaaDoorW.PrintMore
set_option linter.unusedVariables false
set_option linter.unusedSimpArgs false
theorem wf_map {l : List (S34)} (h : ∀ x ∈ l, (Lit.int .i8 x.f0).wf = true ∧ (Lit.int .i8 x.f1).wf = true ∧ (Lit.int .i8 x.f2).wf = true) : ∀ x ∈ l.map shipOf, wfShip x := by
  intro x hx
  obtain ⟨y, hy, rfl⟩ := List.mem_map.1 hx
  exact h y hy
end Go.Proofs.YtiknpcbmcipbcaaDoor.G.Pure
end

section
namespace Go.Proofs.YtiknpcbmcipbcaaDoor.G.Pure
open Go.RowKit Go.Proofs.YtiknpcbmcipbcaaDoor.G Go.Proofs.YtiknpcbmcipbcaaDoorW.PrintWords Go.Proofs.YtiknpcbmcipbcaaDoorW.PrintLast Go.Proofs.YtiknpcbmcipbcaaDoorW.PrintMore
set_option linter.unusedVariables false
set_option linter.unusedSimpArgs false
theorem FnExactLineText (l0 : List (S34)) (h00 : l0.length ≤ 9223372036854775807) (h01 : (∀ x ∈ l0, (Lit.int .i8 x.f0).wf = true ∧ (Lit.int .i8 x.f1).wf = true ∧ (Lit.int .i8 x.f2).wf = true)) : ∃ k, laws_FnExactLineText.f k l0 = some true := by
  by_cases hL : l0.length ≤ 1048576
  · refine ⟨1100000, ?_⟩
    obtain ⟨n, hn, hn0, _⟩ := szShipS_small hL
    have hwf := wf_map h01
    have e1 := toShipS_eq 1100000 l0 hL (by omega)
    have e2 := eqShipS_self 1100000 (l0.map shipOf) (by simpa using hL) (by simp; omega)
    have e3 := specOk_eq 1100000 (l0.map shipOf) hwf (by simpa using hL) (by simp; omega)
    have e4 := implValid_eq (l0.map shipOf)
    generalize l0.map shipOf = l at *
    have hs : spec_LineText.f 1100000 l = some (if validB l = true then bs (jtxt shipTxt l) else bs []) := by
      unfold spec_LineText.f
      rw [e3]
      simp only [Option.bind_some]
      by_cases hv : validB l = true
      · have hV := (validB_iff hwf).1 hv
        rw [if_pos hv, if_pos hv, specLineTxt l hV.most (fun x hx => by have := hV.ships x hx; unfold okShip; omega) _ (by omega) (by omega)]
        rfl
      · rw [if_neg hv, if_neg hv]
    have hi : impl_LineText.f 1100000 l = some (if validB l = true then bs (jtxt shipTxt l) else bs []) := by
      unfold impl_LineText.f
      rw [e4]
      simp only [Option.bind_some]
      by_cases hv : validB l = true
      · have hV := (validB_iff hwf).1 hv
        rw [if_pos hv, if_pos hv, implLineTxt l hV.most (fun x hx => by have := hV.ships x hx; unfold okShip; omega) _ (by omega)]
      · rw [if_neg hv, if_neg hv]
    unfold laws_FnExactLineText.f
    simp only [hn, Option.bind_some, e1]
    rw [if_neg hn0, hs]
    simp only [Option.bind_some]
    rw [hi]
    simp only [Option.bind_some]
    rw [if_pos trivial, e2]
    rfl
  · refine ⟨0, ?_⟩
    unfold laws_FnExactLineText.f
    rw [szShipS_big h00 hL]
    rfl
end Go.Proofs.YtiknpcbmcipbcaaDoor.G.Pure
end
