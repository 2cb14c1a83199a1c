/- The law's functions, their contracts, and the plain lemmas: texts of this claim, laid together. -/
import Derived.Deep.Slices
import Derived.Deep.Fields
import Derived.ChangeSame
import Derived.OpenShut
import Derived.Test.YtheenidapjkboaaMFnExactNoticedAt0
import Derived.Test.YtheenidapjkboaaMFnExactNoticedAt1
import Derived.Test.YtheenidapjkboaaMFnExactNoticedAt2
import Derived.Test.YtheenidapjkboaaMFnExactNoticedAt3
import Derived.Test.YtheenidapjkboaaMFnExactNoticedAt4
section
namespace Go.Proofs.Ytheenidapjkboaa.G
open Go.RowKit Go.Proofs.YtheenidapjkboaaW.PrintWords Go.Proofs.YtheenidapjkboaaW.PrintLast Go.Proofs.YtheenidapjkboaaW.PrintMore
attribute [local go_sem] max2_int min2_int max_two min_two max_three min_three max_four min_four
set_option linter.unusedVariables false
set_option linter.unusedSimpArgs false
def laws_FnExactNoticedAt.j0 : Nat → List (S111) → List Int → List (S146) → List (S109) → List Int → List (S144) → Bool → Option (Bool)
 | 0,_,_,_,_,_,_,_ => none
 | k + 1,x0,x1,x2,x10,x11,x12,x58 => if x58 = true then (some false) else ((laws_toShipS.f k x0).bind fun t125 => ((laws_eqShipS.f k x10 t125).bind fun t128 => (if t128 = true then ((laws_toHoist.f k x1).bind fun t129 => ((laws_eqHoist.f k x11 t129).bind fun t132 => (if t132 = true then ((laws_toFaultS.f k x2).bind fun t133 => ((laws_eqFaultS.f k x12 t133).bind fun t136 => (if t136 = true then (some true) else (some false)))) else (some false)))) else (some false))))
def laws_FnExactNoticedAt.f (k : Nat) (l0 : List (S111)) (l1 : List Int) (l2 : List (S146)) : Option (Bool) := if (l1.length : Int) > 1048576 then (some true) else ((laws_szShipS.f l0 1048576).bind fun t101 => (if t101 < 0 then (some true) else ((laws_szFaultS.f l2 t101).bind fun t102 => (if t102 < 0 then (some true) else ((laws_toShipS.f k l0).bind fun t103 => ((laws_toHoist.f k l1).bind fun t106 => ((laws_toFaultS.f k l2).bind fun t109 => ((spec_NoticedAt.f k t103 t106 t109).bind fun bt112 => ((laws_toShipS.f k l0).bind fun t114 => ((laws_toHoist.f k l1).bind fun t117 => ((laws_toFaultS.f k l2).bind fun t120 => ((impl_NoticedAt.f k t114 t117 t120).bind fun bt123 => (if bt123.1 = bt112.1 then (laws_FnExactNoticedAt.j0 k l0 l1 l2 t114 t117 t120 (bt123.2 != bt112.2)) else (laws_FnExactNoticedAt.j0 k l0 l1 l2 t114 t117 t120 true))))))))))))))
set_option maxHeartbeats 8000000 in
set_option maxRecDepth 100000 in
theorem laws_FnExactNoticedAt.calls (k : Nat) (A0 : Option Addr) (c0 : Nat) (l0 : List (S111)) (A1 : Option Addr) (c1 : Nat) (l1 : List Int) (A2 : Option Addr) (c2 : Nat) (l2 : List (S146)) (r : Bool) (w : World) (hr0 : Kd.C k111 w A0 l0.length l0) (hc0 : l0.length ≤ c0) (hr1 : Kd.C (Kd.int .i8) w A1 l1.length l1) (hc1 : l1.length ≤ c1) (hr2 : Kd.C k146 w A2 l2.length l2) (hc2 : l2.length ≤ c2) (h : laws_FnExactNoticedAt.f k l0 l1 l2 = some r) :
  Calls Try.prog 6 #[.slice A0 l0.length c0,.slice A1 l1.length c1,.slice A2 l2.length c2] w fun e w' => e = .returned (.bool r) ∧ Below w.heap.size w w' := by
 have HR0 := Aside0.mk hr0;have HC0 := Aside0.mk hc0;clear hr0 hc0;have HR1 := Aside0.mk hr1;have HC1 := Aside0.mk hc1;clear hr1 hc1;have HR2 := Aside0.mk hr2;have HC2 := Aside0.mk hc2;clear hr2 hc2;have HB := Aside0.mk (Below.refl w.heap.size w);have H : (if (l1.length : Int) > 1048576 then (some true) else ((laws_szShipS.f l0 1048576).bind fun t101 => (if t101 < 0 then (some true) else ((laws_szFaultS.f l2 t101).bind fun t102 => (if t102 < 0 then (some true) else ((laws_toShipS.f k l0).bind fun t103 => ((laws_toHoist.f k l1).bind fun t106 => ((laws_toFaultS.f k l2).bind fun t109 => ((spec_NoticedAt.f k t103 t106 t109).bind fun bt112 => ((laws_toShipS.f k l0).bind fun t114 => ((laws_toHoist.f k l1).bind fun t117 => ((laws_toFaultS.f k l2).bind fun t120 => ((impl_NoticedAt.f k t114 t117 t120).bind fun bt123 => (if bt123.1 = bt112.1 then (laws_FnExactNoticedAt.j0 k l0 l1 l2 t114 t117 t120 (bt123.2 != bt112.2)) else (laws_FnExactNoticedAt.j0 k l0 l1 l2 t114 t117 t120 true))))))))))))))) = some r := h;clear h
 by_cases c4 : (l1.length : Int) > 1048576
 ·rw [if_pos c4] at H;have c4b0 : decide (1048576 < (l1.length : Int)) = true := decide_eq_true c4;have c4b1 : decide (1048576 < l1.length) = true := decide_eq_true (by omega);clear c4;obtain rfl := Option.some.inj H
  go_enter Try.func6,Try.ntmps6
  go_wp2
  go_ret
  exact ⟨by first | rfl | (simp [errW_none,errW_some,IntKind.wrap_i64,wrap64];done) | (simp [errW_none,errW_some] <;> rfl) | (simp [*,errW_none,errW_some] <;> rfl),by repeat (first | (with_reducible first | exact HB.out | apply below_alloc | apply pw_below_drewN | apply below_drew1) | exact HB.out)⟩
 ·rw [if_neg c4] at H;have c4b0 : decide (1048576 < (l1.length : Int)) = false := decide_eq_false c4;have c4b1 : decide (1048576 < l1.length) = false := decide_eq_false (by omega);clear c4;replace H := Option.bind_eq_some_iff.mp H;obtain ⟨t101,A50,H⟩ := H;replace H : (if t101 < 0 then (some true) else ((laws_szFaultS.f l2 t101).bind fun t102 => (if t102 < 0 then (some true) else ((laws_toShipS.f k l0).bind fun t103 => ((laws_toHoist.f k l1).bind fun t106 => ((laws_toFaultS.f k l2).bind fun t109 => ((spec_NoticedAt.f k t103 t106 t109).bind fun bt112 => ((laws_toShipS.f k l0).bind fun t114 => ((laws_toHoist.f k l1).bind fun t117 => ((laws_toFaultS.f k l2).bind fun t120 => ((impl_NoticedAt.f k t114 t117 t120).bind fun bt123 => (if bt123.1 = bt112.1 then (laws_FnExactNoticedAt.j0 k l0 l1 l2 t114 t117 t120 (bt123.2 != bt112.2)) else (laws_FnExactNoticedAt.j0 k l0 l1 l2 t114 t117 t120 true))))))))))))) = some r := H;have A5 := Aside0.mk A50;clear A50
  by_cases c6 : t101 < 0
  ·rw [if_pos c6] at H;have c6b0 : decide (t101 < 0) = true := decide_eq_true c6;clear c6;obtain rfl := Option.some.inj H
   go_enter Try.func6,Try.ntmps6
   go_wp2_with (first | ((with_reducible refine gate_callee (f := 12) rfl ?_);refine goesL_ (some 20) rfl rfl Try.func12 (by kernel_rfl) rfl #[.slice A0 l0.length c0,.int .i64 1048576] rfl (by (try simp only [List.map_toArray,List.map_cons,List.map_nil]);first | done | rfl | (simp only [List.length_drop,List.length_take];rfl)) ?_;(with_reducible refine (laws_szShipS.calls _ _ l0 1048576 t101 _ ?side1 ?side2 A5.out).mono ?_);(case side1 => repeat (first | exact HR0.out | (with_reducible refine Kd.C_alloc ?_ _) | (with_reducible refine Kd.C_drewN ?_ _) | (with_reducible refine Kd.C_drew ?_)));(case side2 => exact HC0.out);rintro e w' ⟨rfl,⟨nd,rfl⟩⟩;refine ⟨_,rfl,?_⟩))
   go_ret
   exact ⟨by first | rfl | (simp [errW_none,errW_some,IntKind.wrap_i64,wrap64];done) | (simp [errW_none,errW_some] <;> rfl) | (simp [*,errW_none,errW_some] <;> rfl),by repeat (first | (with_reducible first | exact HB.out | apply below_alloc | apply pw_below_drewN | apply below_drew1) | exact HB.out)⟩
  ·rw [if_neg c6] at H;have c6b0 : decide (t101 < 0) = false := decide_eq_false c6;clear c6;replace H := Option.bind_eq_some_iff.mp H;obtain ⟨t102,A70,H⟩ := H;replace H : (if t102 < 0 then (some true) else ((laws_toShipS.f k l0).bind fun t103 => ((laws_toHoist.f k l1).bind fun t106 => ((laws_toFaultS.f k l2).bind fun t109 => ((spec_NoticedAt.f k t103 t106 t109).bind fun bt112 => ((laws_toShipS.f k l0).bind fun t114 => ((laws_toHoist.f k l1).bind fun t117 => ((laws_toFaultS.f k l2).bind fun t120 => ((impl_NoticedAt.f k t114 t117 t120).bind fun bt123 => (if bt123.1 = bt112.1 then (laws_FnExactNoticedAt.j0 k l0 l1 l2 t114 t117 t120 (bt123.2 != bt112.2)) else (laws_FnExactNoticedAt.j0 k l0 l1 l2 t114 t117 t120 true))))))))))) = some r := H;have A7 := Aside0.mk A70;clear A70
   by_cases c8 : t102 < 0
   ·rw [if_pos c8] at H;have c8b0 : decide (t102 < 0) = true := decide_eq_true c8;clear c8;obtain rfl := Option.some.inj H
    go_enter Try.func6,Try.ntmps6
    go_wp2_with (first | ((with_reducible refine gate_callee (f := 12) rfl ?_);refine goesL_ (some 20) rfl rfl Try.func12 (by kernel_rfl) rfl #[.slice A0 l0.length c0,.int .i64 1048576] rfl (by (try simp only [List.map_toArray,List.map_cons,List.map_nil]);first | done | rfl | (simp only [List.length_drop,List.length_take];rfl)) ?_;(with_reducible refine (laws_szShipS.calls _ _ l0 1048576 t101 _ ?side1 ?side2 A5.out).mono ?_);(case side1 => repeat (first | exact HR0.out | (with_reducible refine Kd.C_alloc ?_ _) | (with_reducible refine Kd.C_drewN ?_ _) | (with_reducible refine Kd.C_drew ?_)));(case side2 => exact HC0.out);rintro e w' ⟨rfl,⟨nd,rfl⟩⟩;refine ⟨_,rfl,?_⟩) | ((with_reducible refine gate_callee (f := 33) rfl ?_);refine goesL_ (some 25) rfl rfl Try.func33 (by kernel_rfl) rfl #[.slice A2 l2.length c2,.int .i64 t101] rfl (by (try simp only [List.map_toArray,List.map_cons,List.map_nil]);first | done | rfl | (simp only [List.length_drop,List.length_take];rfl)) ?_;(with_reducible refine (laws_szFaultS.calls _ _ l2 t101 t102 _ ?side1 ?side2 A7.out).mono ?_);(case side1 => repeat (first | exact HR2.out | (with_reducible refine Kd.C_alloc ?_ _) | (with_reducible refine Kd.C_drewN ?_ _) | (with_reducible refine Kd.C_drew ?_)));(case side2 => exact HC2.out);rintro e w' ⟨rfl,⟨nd,rfl⟩⟩;refine ⟨_,rfl,?_⟩))
    go_ret
    exact ⟨by first | rfl | (simp [errW_none,errW_some,IntKind.wrap_i64,wrap64];done) | (simp [errW_none,errW_some] <;> rfl) | (simp [*,errW_none,errW_some] <;> rfl),by repeat (first | (with_reducible first | exact HB.out | apply below_alloc | apply pw_below_drewN | apply below_drew1) | exact HB.out)⟩
   ·rw [if_neg c8] at H;have c8b0 : decide (t102 < 0) = false := decide_eq_false c8;clear c8;replace H := Option.bind_eq_some_iff.mp H;obtain ⟨t103,A90,H⟩ := H;replace H : ((laws_toHoist.f k l1).bind fun t106 => ((laws_toFaultS.f k l2).bind fun t109 => ((spec_NoticedAt.f k t103 t106 t109).bind fun bt112 => ((laws_toShipS.f k l0).bind fun t114 => ((laws_toHoist.f k l1).bind fun t117 => ((laws_toFaultS.f k l2).bind fun t120 => ((impl_NoticedAt.f k t114 t117 t120).bind fun bt123 => (if bt123.1 = bt112.1 then (laws_FnExactNoticedAt.j0 k l0 l1 l2 t114 t117 t120 (bt123.2 != bt112.2)) else (laws_FnExactNoticedAt.j0 k l0 l1 l2 t114 t117 t120 true))))))))) = some r := H;have A9 := Aside0.mk A90;clear A90;replace H := Option.bind_eq_some_iff.mp H;obtain ⟨t106,A100,H⟩ := H;replace H : ((laws_toFaultS.f k l2).bind fun t109 => ((spec_NoticedAt.f k t103 t106 t109).bind fun bt112 => ((laws_toShipS.f k l0).bind fun t114 => ((laws_toHoist.f k l1).bind fun t117 => ((laws_toFaultS.f k l2).bind fun t120 => ((impl_NoticedAt.f k t114 t117 t120).bind fun bt123 => (if bt123.1 = bt112.1 then (laws_FnExactNoticedAt.j0 k l0 l1 l2 t114 t117 t120 (bt123.2 != bt112.2)) else (laws_FnExactNoticedAt.j0 k l0 l1 l2 t114 t117 t120 true)))))))) = some r := H;have A10 := Aside0.mk A100;clear A100;replace H := Option.bind_eq_some_iff.mp H;obtain ⟨t109,A110,H⟩ := H;replace H : ((spec_NoticedAt.f k t103 t106 t109).bind fun bt112 => ((laws_toShipS.f k l0).bind fun t114 => ((laws_toHoist.f k l1).bind fun t117 => ((laws_toFaultS.f k l2).bind fun t120 => ((impl_NoticedAt.f k t114 t117 t120).bind fun bt123 => (if bt123.1 = bt112.1 then (laws_FnExactNoticedAt.j0 k l0 l1 l2 t114 t117 t120 (bt123.2 != bt112.2)) else (laws_FnExactNoticedAt.j0 k l0 l1 l2 t114 t117 t120 true))))))) = some r := H;have A11 := Aside0.mk A110;clear A110;replace H := Option.bind_eq_some_iff.mp H;obtain ⟨⟨t112,t113⟩,A120,H⟩ := H;replace H : ((laws_toShipS.f k l0).bind fun t114 => ((laws_toHoist.f k l1).bind fun t117 => ((laws_toFaultS.f k l2).bind fun t120 => ((impl_NoticedAt.f k t114 t117 t120).bind fun bt123 => (if bt123.1 = t112 then (laws_FnExactNoticedAt.j0 k l0 l1 l2 t114 t117 t120 (bt123.2 != t113)) else (laws_FnExactNoticedAt.j0 k l0 l1 l2 t114 t117 t120 true)))))) = some r := H;have A12 := Aside0.mk A120;clear A120;replace H := Option.bind_eq_some_iff.mp H;obtain ⟨t114,A130,H⟩ := H;replace H : ((laws_toHoist.f k l1).bind fun t117 => ((laws_toFaultS.f k l2).bind fun t120 => ((impl_NoticedAt.f k t114 t117 t120).bind fun bt123 => (if bt123.1 = t112 then (laws_FnExactNoticedAt.j0 k l0 l1 l2 t114 t117 t120 (bt123.2 != t113)) else (laws_FnExactNoticedAt.j0 k l0 l1 l2 t114 t117 t120 true))))) = some r := H;have A13 := Aside0.mk A130;clear A130;replace H := Option.bind_eq_some_iff.mp H;obtain ⟨t117,A140,H⟩ := H;replace H : ((laws_toFaultS.f k l2).bind fun t120 => ((impl_NoticedAt.f k t114 t117 t120).bind fun bt123 => (if bt123.1 = t112 then (laws_FnExactNoticedAt.j0 k l0 l1 l2 t114 t117 t120 (bt123.2 != t113)) else (laws_FnExactNoticedAt.j0 k l0 l1 l2 t114 t117 t120 true)))) = some r := H;have A14 := Aside0.mk A140;clear A140;replace H := Option.bind_eq_some_iff.mp H;obtain ⟨t120,A150,H⟩ := H;replace H : ((impl_NoticedAt.f k t114 t117 t120).bind fun bt123 => (if bt123.1 = t112 then (laws_FnExactNoticedAt.j0 k l0 l1 l2 t114 t117 t120 (bt123.2 != t113)) else (laws_FnExactNoticedAt.j0 k l0 l1 l2 t114 t117 t120 true))) = some r := H;have A15 := Aside0.mk A150;clear A150;replace H := Option.bind_eq_some_iff.mp H;obtain ⟨⟨t123,t124⟩,A160,H⟩ := H;replace H : (if t123 = t112 then (laws_FnExactNoticedAt.j0 k l0 l1 l2 t114 t117 t120 (t124 != t113)) else (laws_FnExactNoticedAt.j0 k l0 l1 l2 t114 t117 t120 true)) = some r := H;have A16 := Aside0.mk A160;clear A160;have HC17 := Aside0.mk H;clear H
    go_enter Try.func6,Try.ntmps6
    go_upto_region 15 with (first | ((with_reducible refine gate_callee (f := 12) rfl ?_);refine goesL_ (some 20) rfl rfl Try.func12 (by kernel_rfl) rfl #[.slice A0 l0.length c0,.int .i64 1048576] rfl (by (try simp only [List.map_toArray,List.map_cons,List.map_nil]);first | done | rfl | (simp only [List.length_drop,List.length_take];rfl)) ?_;(with_reducible refine (laws_szShipS.calls _ _ l0 1048576 t101 _ ?side1 ?side2 A5.out).mono ?_);(case side1 => repeat (first | exact HR0.out | (with_reducible refine Kd.C_alloc ?_ _) | (with_reducible refine Kd.C_drewN ?_ _) | (with_reducible refine Kd.C_drew ?_)));(case side2 => exact HC0.out);rintro e w' ⟨rfl,⟨nd,rfl⟩⟩;refine ⟨_,rfl,?_⟩) | ((with_reducible refine gate_callee (f := 33) rfl ?_);refine goesL_ (some 25) rfl rfl Try.func33 (by kernel_rfl) rfl #[.slice A2 l2.length c2,.int .i64 t101] rfl (by (try simp only [List.map_toArray,List.map_cons,List.map_nil]);first | done | rfl | (simp only [List.length_drop,List.length_take];rfl)) ?_;(with_reducible refine (laws_szFaultS.calls _ _ l2 t101 t102 _ ?side1 ?side2 A7.out).mono ?_);(case side1 => repeat (first | exact HR2.out | (with_reducible refine Kd.C_alloc ?_ _) | (with_reducible refine Kd.C_drewN ?_ _) | (with_reducible refine Kd.C_drew ?_)));(case side2 => exact HC2.out);rintro e w' ⟨rfl,⟨nd,rfl⟩⟩;refine ⟨_,rfl,?_⟩) | ((with_reducible refine gate_callee (f := 15) rfl ?_);refine goesL_ (some 30) rfl rfl Try.func15 (by kernel_rfl) rfl #[.slice A0 l0.length c0] rfl (by (try simp only [List.map_toArray,List.map_cons,List.map_nil]);first | done | rfl | (simp only [List.length_drop,List.length_take];rfl)) ?_;(with_reducible refine (laws_toShipS.calls k _ _ l0 t103 _ ?side1 ?side2 A9.out).mono ?_);(case side1 => repeat (first | exact HR0.out | (with_reducible refine Kd.C_alloc ?_ _) | (with_reducible refine Kd.C_drewN ?_ _) | (with_reducible refine Kd.C_drew ?_)));(case side2 => exact HC0.out);rintro e w18 ⟨v104,rfl,ho0,hb⟩;refine ⟨_,rfl,?_⟩;have n0_ := Aside0.mk (Kd.R_lower ho0 (below_size (by repeat (first | (with_reducible first | exact HB.out | apply below_alloc | apply pw_below_drewN | apply below_drew1) | exact HB.out))));have n1_ := Aside0.mk (below_step (by repeat (first | (with_reducible first | exact HB.out | apply below_alloc | apply pw_below_drewN | apply below_drew1) | exact HB.out)) hb);clear HB;have HO105 := n0_;have HB := n1_;clear n0_ n1_;(try clear hb);(try clear hb2);(try clear hk);(try clear hi);(try clear ho0)) | ((with_reducible refine gate_callee (f := 16) rfl ?_);refine goesL_ (some 32) rfl rfl Try.func16 (by kernel_rfl) rfl #[.slice A1 l1.length c1] rfl (by (try simp only [List.map_toArray,List.map_cons,List.map_nil]);first | done | rfl | (simp only [List.length_drop,List.length_take];rfl)) ?_;(with_reducible refine (laws_toHoist.calls k _ _ l1 t106 _ ?side1 ?side2 A10.out).mono ?_);(case side1 => repeat (first | exact (Kd.C_below HR1.out HB.out) | (with_reducible refine Kd.C_alloc ?_ _) | (with_reducible refine Kd.C_drewN ?_ _) | (with_reducible refine Kd.C_drew ?_)));(case side2 => exact HC1.out);rintro e w19 ⟨v107,rfl,ho0,hb⟩;refine ⟨_,rfl,?_⟩;have n0_ := Aside0.mk (Kd.R_below (by (with_reducible repeat (first | apply Kd.R_alloc | apply Kd.R_drewN | apply Kd.R_drew));exact HO105.out) hb);have n1_ := Aside0.mk (Kd.R_lower ho0 (below_size (by repeat (first | (with_reducible first | exact HB.out | apply below_alloc | apply pw_below_drewN | apply below_drew1) | exact HB.out))));have n2_ := Aside0.mk (below_step (by repeat (first | (with_reducible first | exact HB.out | apply below_alloc | apply pw_below_drewN | apply below_drew1) | exact HB.out)) hb);clear HO105;clear HB;have HO105 := n0_;have HO108 := n1_;have HB := n2_;clear n0_ n1_ n2_;(try clear hb);(try clear hb2);(try clear hk);(try clear hi);(try clear ho0)) | ((with_reducible refine gate_callee (f := 35) rfl ?_);refine goesL_ (some 34) rfl rfl Try.func35 (by kernel_rfl) rfl #[.slice A2 l2.length c2] rfl (by (try simp only [List.map_toArray,List.map_cons,List.map_nil]);first | done | rfl | (simp only [List.length_drop,List.length_take];rfl)) ?_;(with_reducible refine (laws_toFaultS.calls k _ _ l2 t109 _ ?side1 ?side2 A11.out).mono ?_);(case side1 => repeat (first | exact (Kd.C_below HR2.out HB.out) | (with_reducible refine Kd.C_alloc ?_ _) | (with_reducible refine Kd.C_drewN ?_ _) | (with_reducible refine Kd.C_drew ?_)));(case side2 => exact HC2.out);rintro e w20 ⟨v110,rfl,ho0,hb⟩;refine ⟨_,rfl,?_⟩;have n0_ := Aside0.mk (Kd.R_below (by (with_reducible repeat (first | apply Kd.R_alloc | apply Kd.R_drewN | apply Kd.R_drew));exact HO105.out) hb);have n1_ := Aside0.mk (Kd.R_below (by (with_reducible repeat (first | apply Kd.R_alloc | apply Kd.R_drewN | apply Kd.R_drew));exact HO108.out) hb);have n2_ := Aside0.mk (Kd.R_lower ho0 (below_size (by repeat (first | (with_reducible first | exact HB.out | apply below_alloc | apply pw_below_drewN | apply below_drew1) | exact HB.out))));have n3_ := Aside0.mk (below_step (by repeat (first | (with_reducible first | exact HB.out | apply below_alloc | apply pw_below_drewN | apply below_drew1) | exact HB.out)) hb);clear HO105;clear HO108;clear HB;have HO105 := n0_;have HO108 := n1_;have HO111 := n2_;have HB := n3_;clear n0_ n1_ n2_ n3_;(try clear hb);(try clear hb2);(try clear hk);(try clear hi);(try clear ho0);obtain ⟨Ao21,co21,eo21⟩ := Kd.R_slice HO105.out;subst eo21;obtain ⟨Ao22,co22,eo22⟩ := Kd.R_slice HO108.out;subst eo22;obtain ⟨Ao23,co23,eo23⟩ := Kd.R_slice HO111.out;subst eo23) | ((with_reducible refine gate_callee (f := 34) rfl ?_);refine goesL_ (some 35) rfl rfl Try.func34 (by kernel_rfl) rfl #[.slice Ao21 t103.length co21,.slice Ao22 t106.length co22,.slice Ao23 t109.length co23] rfl (by (try simp only [List.map_toArray,List.map_cons,List.map_nil]);first | done | rfl | (simp only [List.length_drop,List.length_take];rfl)) ?_;(with_reducible refine (spec_NoticedAt.calls k _ _ t103 _ _ t106 _ _ t109 t112 t113 _ ?side1 ?side2 ?side3 ?side4 ?side5 ?side6 A12.out).mono ?_);(case side1 => repeat (first | exact (Kd.R_reads' HO105.out).2.2 | (with_reducible refine Kd.C_alloc ?_ _) | (with_reducible refine Kd.C_drewN ?_ _) | (with_reducible refine Kd.C_drew ?_)));(case side2 => exact (Kd.R_reads' HO105.out).2.1);(case side3 => repeat (first | exact (Kd.R_reads' HO108.out).2.2 | (with_reducible refine Kd.C_alloc ?_ _) | (with_reducible refine Kd.C_drewN ?_ _) | (with_reducible refine Kd.C_drew ?_)));(case side4 => exact (Kd.R_reads' HO108.out).2.1);(case side5 => repeat (first | exact (Kd.R_reads' HO111.out).2.2 | (with_reducible refine Kd.C_alloc ?_ _) | (with_reducible refine Kd.C_drewN ?_ _) | (with_reducible refine Kd.C_drew ?_)));(case side6 => exact (Kd.R_reads' HO111.out).2.1);rintro e w24 ⟨rfl,hb⟩;refine ⟨_,rfl,?_⟩;have n0_ := Aside0.mk (Kd.R_below (by (with_reducible repeat (first | apply Kd.R_alloc | apply Kd.R_drewN | apply Kd.R_drew));exact HO105.out) hb);have n1_ := Aside0.mk (Kd.R_below (by (with_reducible repeat (first | apply Kd.R_alloc | apply Kd.R_drewN | apply Kd.R_drew));exact HO108.out) hb);have n2_ := Aside0.mk (Kd.R_below (by (with_reducible repeat (first | apply Kd.R_alloc | apply Kd.R_drewN | apply Kd.R_drew));exact HO111.out) hb);have n3_ := Aside0.mk (below_step (by repeat (first | (with_reducible first | exact HB.out | apply below_alloc | apply pw_below_drewN | apply below_drew1) | exact HB.out)) hb);clear HO105;clear HO108;clear HO111;clear HB;have HO105 := n0_;have HO108 := n1_;have HO111 := n2_;have HB := n3_;clear n0_ n1_ n2_ n3_;(try clear hb);(try clear hb2);(try clear hk);(try clear hi)) | ((with_reducible refine gate_callee (f := 15) rfl ?_);refine goesL_ (some 39) rfl rfl Try.func15 (by kernel_rfl) rfl #[.slice A0 l0.length c0] rfl (by (try simp only [List.map_toArray,List.map_cons,List.map_nil]);first | done | rfl | (simp only [List.length_drop,List.length_take];rfl)) ?_;(with_reducible refine (laws_toShipS.calls k _ _ l0 t114 _ ?side1 ?side2 A13.out).mono ?_);(case side1 => repeat (first | exact (Kd.C_below HR0.out HB.out) | (with_reducible refine Kd.C_alloc ?_ _) | (with_reducible refine Kd.C_drewN ?_ _) | (with_reducible refine Kd.C_drew ?_)));(case side2 => exact HC0.out);rintro e w25 ⟨v115,rfl,ho0,hb⟩;refine ⟨_,rfl,?_⟩;have n0_ := Aside0.mk (Kd.R_elder' (by (with_reducible repeat (first | apply Kd.R_alloc | apply Kd.R_drewN | apply Kd.R_drew));exact HO105.out) (Kd.R_base ho0) hb);have n1_ := Aside0.mk (Kd.R_below (by (with_reducible repeat (first | apply Kd.R_alloc | apply Kd.R_drewN | apply Kd.R_drew));exact HO108.out) hb);have n2_ := Aside0.mk (Kd.R_below (by (with_reducible repeat (first | apply Kd.R_alloc | apply Kd.R_drewN | apply Kd.R_drew));exact HO111.out) hb);have n3_ := Aside0.mk (Kd.R_lower (Kd.R_new' ho0 (Kd.R_lt (by (with_reducible repeat (first | apply Kd.R_alloc | apply Kd.R_drewN | apply Kd.R_drew));exact HO105.out))) (below_size (by repeat (first | (with_reducible first | exact HB.out | apply below_alloc | apply pw_below_drewN | apply below_drew1) | exact HB.out))));have n4_ := Aside0.mk (below_step (by repeat (first | (with_reducible first | exact HB.out | apply below_alloc | apply pw_below_drewN | apply below_drew1) | exact HB.out)) hb);clear HO105;clear HO108;clear HO111;clear HB;have HO105 := n0_;have HO108 := n1_;have HO111 := n2_;have HO116 := n3_;have HB := n4_;clear n0_ n1_ n2_ n3_ n4_;(try clear hb);(try clear hb2);(try clear hk);(try clear hi);(try clear ho0)) | ((with_reducible refine gate_callee (f := 16) rfl ?_);refine goesL_ (some 41) rfl rfl Try.func16 (by kernel_rfl) rfl #[.slice A1 l1.length c1] rfl (by (try simp only [List.map_toArray,List.map_cons,List.map_nil]);first | done | rfl | (simp only [List.length_drop,List.length_take];rfl)) ?_;(with_reducible refine (laws_toHoist.calls k _ _ l1 t117 _ ?side1 ?side2 A14.out).mono ?_);(case side1 => repeat (first | exact (Kd.C_below HR1.out HB.out) | (with_reducible refine Kd.C_alloc ?_ _) | (with_reducible refine Kd.C_drewN ?_ _) | (with_reducible refine Kd.C_drew ?_)));(case side2 => exact HC1.out);rintro e w26 ⟨v118,rfl,ho0,hb⟩;refine ⟨_,rfl,?_⟩;have n0_ := Aside0.mk (Kd.R_below (by (with_reducible repeat (first | apply Kd.R_alloc | apply Kd.R_drewN | apply Kd.R_drew));exact HO105.out) hb);have n1_ := Aside0.mk (Kd.R_elder' (by (with_reducible repeat (first | apply Kd.R_alloc | apply Kd.R_drewN | apply Kd.R_drew));exact HO108.out) (Kd.R_base ho0) hb);have n2_ := Aside0.mk (Kd.R_below (by (with_reducible repeat (first | apply Kd.R_alloc | apply Kd.R_drewN | apply Kd.R_drew));exact HO111.out) hb);have n3_ := Aside0.mk (Kd.R_below (by (with_reducible repeat (first | apply Kd.R_alloc | apply Kd.R_drewN | apply Kd.R_drew));exact HO116.out) hb);have n4_ := Aside0.mk (Kd.R_lower (Kd.R_new' ho0 (Kd.R_lt (by (with_reducible repeat (first | apply Kd.R_alloc | apply Kd.R_drewN | apply Kd.R_drew));exact HO108.out))) (below_size (by repeat (first | (with_reducible first | exact HB.out | apply below_alloc | apply pw_below_drewN | apply below_drew1) | exact HB.out))));have n5_ := Aside0.mk (below_step (by repeat (first | (with_reducible first | exact HB.out | apply below_alloc | apply pw_below_drewN | apply below_drew1) | exact HB.out)) hb);clear HO105;clear HO108;clear HO111;clear HO116;clear HB;have HO105 := n0_;have HO108 := n1_;have HO111 := n2_;have HO116 := n3_;have HO119 := n4_;have HB := n5_;clear n0_ n1_ n2_ n3_ n4_ n5_;(try clear hb);(try clear hb2);(try clear hk);(try clear hi);(try clear ho0)) | ((with_reducible refine gate_callee (f := 35) rfl ?_);refine goesL_ (some 43) rfl rfl Try.func35 (by kernel_rfl) rfl #[.slice A2 l2.length c2] rfl (by (try simp only [List.map_toArray,List.map_cons,List.map_nil]);first | done | rfl | (simp only [List.length_drop,List.length_take];rfl)) ?_;(with_reducible refine (laws_toFaultS.calls k _ _ l2 t120 _ ?side1 ?side2 A15.out).mono ?_);(case side1 => repeat (first | exact (Kd.C_below HR2.out HB.out) | (with_reducible refine Kd.C_alloc ?_ _) | (with_reducible refine Kd.C_drewN ?_ _) | (with_reducible refine Kd.C_drew ?_)));(case side2 => exact HC2.out);rintro e w27 ⟨v121,rfl,ho0,hb⟩;refine ⟨_,rfl,?_⟩;have n0_ := Aside0.mk (Kd.R_below (by (with_reducible repeat (first | apply Kd.R_alloc | apply Kd.R_drewN | apply Kd.R_drew));exact HO105.out) hb);have n1_ := Aside0.mk (Kd.R_below (by (with_reducible repeat (first | apply Kd.R_alloc | apply Kd.R_drewN | apply Kd.R_drew));exact HO108.out) hb);have n2_ := Aside0.mk (Kd.R_elder' (by (with_reducible repeat (first | apply Kd.R_alloc | apply Kd.R_drewN | apply Kd.R_drew));exact HO111.out) (Kd.R_base ho0) hb);have n3_ := Aside0.mk (Kd.R_below (by (with_reducible repeat (first | apply Kd.R_alloc | apply Kd.R_drewN | apply Kd.R_drew));exact HO116.out) hb);have n4_ := Aside0.mk (Kd.R_below (by (with_reducible repeat (first | apply Kd.R_alloc | apply Kd.R_drewN | apply Kd.R_drew));exact HO119.out) hb);have n5_ := Aside0.mk (Kd.R_lower (Kd.R_new' ho0 (Kd.R_lt (by (with_reducible repeat (first | apply Kd.R_alloc | apply Kd.R_drewN | apply Kd.R_drew));exact HO111.out))) (below_size (by repeat (first | (with_reducible first | exact HB.out | apply below_alloc | apply pw_below_drewN | apply below_drew1) | exact HB.out))));have n6_ := Aside0.mk (below_step (by repeat (first | (with_reducible first | exact HB.out | apply below_alloc | apply pw_below_drewN | apply below_drew1) | exact HB.out)) hb);clear HO105;clear HO108;clear HO111;clear HO116;clear HO119;clear HB;have HO105 := n0_;have HO108 := n1_;have HO111 := n2_;have HO116 := n3_;have HO119 := n4_;have HO122 := n5_;have HB := n6_;clear n0_ n1_ n2_ n3_ n4_ n5_ n6_;(try clear hb);(try clear hb2);(try clear hk);(try clear hi);(try clear ho0);obtain ⟨Ao28,co28,eo28⟩ := Kd.R_slice HO116.out;subst eo28;obtain ⟨Ao29,co29,eo29⟩ := Kd.R_slice HO119.out;subst eo29;obtain ⟨Ao30,co30,eo30⟩ := Kd.R_slice HO122.out;subst eo30) | ((with_reducible refine gate_callee (f := 36) rfl ?_);refine goesL_ (some 48) rfl rfl Try.func36 (by kernel_rfl) rfl #[.slice Ao28 t114.length co28,.slice Ao29 t117.length co29,.slice Ao30 t120.length co30] rfl (by (try simp only [List.map_toArray,List.map_cons,List.map_nil]);first | done | rfl | (simp only [List.length_drop,List.length_take];rfl)) ?_;(with_reducible refine (impl_NoticedAt.calls k _ _ t114 _ _ t117 _ _ t120 t123 t124 _ ?side1 ?side2 ?side3 ?side4 ?side5 ?side6 A16.out).mono ?_);(case side1 => repeat (first | exact (Kd.R_reads' HO116.out).2.2 | (with_reducible refine Kd.C_alloc ?_ _) | (with_reducible refine Kd.C_drewN ?_ _) | (with_reducible refine Kd.C_drew ?_)));(case side2 => exact (Kd.R_reads' HO116.out).2.1);(case side3 => repeat (first | exact (Kd.R_reads' HO119.out).2.2 | (with_reducible refine Kd.C_alloc ?_ _) | (with_reducible refine Kd.C_drewN ?_ _) | (with_reducible refine Kd.C_drew ?_)));(case side4 => exact (Kd.R_reads' HO119.out).2.1);(case side5 => repeat (first | exact (Kd.R_reads' HO122.out).2.2 | (with_reducible refine Kd.C_alloc ?_ _) | (with_reducible refine Kd.C_drewN ?_ _) | (with_reducible refine Kd.C_drew ?_)));(case side6 => exact (Kd.R_reads' HO122.out).2.1);rintro e w31 ⟨rfl,hb⟩;refine ⟨_,rfl,?_⟩;have n0_ := Aside0.mk (Kd.R_below (by (with_reducible repeat (first | apply Kd.R_alloc | apply Kd.R_drewN | apply Kd.R_drew));exact HO105.out) hb);have n1_ := Aside0.mk (Kd.R_below (by (with_reducible repeat (first | apply Kd.R_alloc | apply Kd.R_drewN | apply Kd.R_drew));exact HO108.out) hb);have n2_ := Aside0.mk (Kd.R_below (by (with_reducible repeat (first | apply Kd.R_alloc | apply Kd.R_drewN | apply Kd.R_drew));exact HO111.out) hb);have n3_ := Aside0.mk (Kd.R_below (by (with_reducible repeat (first | apply Kd.R_alloc | apply Kd.R_drewN | apply Kd.R_drew));exact HO116.out) hb);have n4_ := Aside0.mk (Kd.R_below (by (with_reducible repeat (first | apply Kd.R_alloc | apply Kd.R_drewN | apply Kd.R_drew));exact HO119.out) hb);have n5_ := Aside0.mk (Kd.R_below (by (with_reducible repeat (first | apply Kd.R_alloc | apply Kd.R_drewN | apply Kd.R_drew));exact HO122.out) hb);have n6_ := Aside0.mk (below_step (by repeat (first | (with_reducible first | exact HB.out | apply below_alloc | apply pw_below_drewN | apply below_drew1) | exact HB.out)) hb);clear HO105;clear HO108;clear HO111;clear HO116;clear HO119;clear HO122;clear HB;have HO105 := n0_;have HO108 := n1_;have HO111 := n2_;have HO116 := n3_;have HO119 := n4_;have HO122 := n5_;have HB := n6_;clear n0_ n1_ n2_ n3_ n4_ n5_ n6_;(try clear hb);(try clear hb2);(try clear hk);(try clear hi)))
    (try simp only [Act.put,List.setIfInBounds_toArray,List.set_cons_zero,List.set_cons_succ])
    go_cut [58] (fun v58 wc => ∃ (kq : Nat) (x58_16 : Bool),v58 = .bool x58_16 ∧ Aside0 (laws_FnExactNoticedAt.j0 kq l0 l1 l2 t114 t117 t120 x58_16 = some r) ∧ Aside0 (kq ≤ k) ∧ Aside0 (Kd.R k109 109 wc w.heap.size (fun _ => True) (.slice Ao28 t114.length co28) t114) ∧ Aside0 (Kd.R (Kd.int .i8) 104 wc w.heap.size (fun _ => True) (.slice Ao29 t117.length co29) t117) ∧ Aside0 (Kd.R k144 144 wc w.heap.size (fun _ => True) (.slice Ao30 t120.length co30) t120) ∧ Aside0 (Below w.heap.size w wc))
    case first =>
     have H := HC17.out;clear HC17
     by_cases c32 : t123 = t112
     ·rw [if_pos c32] at H;have c32b0 : (t123 == t112) = true := beq_iff_eq.mpr c32;have c32b1 : (t123 != t112) = false := bne_eq_false_iff_eq.mpr c32;clear c32;(first | rw [c32b0] | (simp only [i64_w,i32_w];rw [c32b0]) | skip);have H' := Aside0.mk H;clear H
      go_wp2
      go_meet
      case rel => exact ⟨_,((t124 != t113)),(by first | rfl | (simp only [IntKind.wrap_i64,wrap64];done) | (simp;done) | (simp [*];done)),H',⟨by first | omega | exact Nat.le_refl _⟩,⟨by (with_reducible repeat (first | apply Kd.R_alloc | apply Kd.R_drewN | apply Kd.R_drew));exact Kd.R_mono HO116.out (fun _ hk => trivial)⟩,⟨by (with_reducible repeat (first | apply Kd.R_alloc | apply Kd.R_drewN | apply Kd.R_drew));exact Kd.R_mono HO119.out (fun _ hk => trivial)⟩,⟨by (with_reducible repeat (first | apply Kd.R_alloc | apply Kd.R_drewN | apply Kd.R_drew));exact Kd.R_mono HO122.out (fun _ hk => trivial)⟩,⟨by repeat (first | (with_reducible first | exact HB.out | apply below_alloc | apply pw_below_drewN | apply below_drew1) | exact HB.out)⟩⟩
     ·rw [if_neg c32] at H;have c32b0 : (t123 == t112) = false := beq_eq_false_iff_ne.mpr c32;have c32b1 : (t123 != t112) = true := bne_iff_ne.mpr c32;(first | rw [c32b0] | (simp only [i64_w,i32_w];rw [c32b0]) | skip);have H' := Aside0.mk H;clear H
      go_wp2
      go_meet
      case rel => exact ⟨_,(true),(by first | rfl | (simp only [IntKind.wrap_i64,wrap64];done) | (simp;done) | (simp [*];done)),H',⟨by first | omega | exact Nat.le_refl _⟩,⟨by (with_reducible repeat (first | apply Kd.R_alloc | apply Kd.R_drewN | apply Kd.R_drew));exact Kd.R_mono HO116.out (fun _ hk => trivial)⟩,⟨by (with_reducible repeat (first | apply Kd.R_alloc | apply Kd.R_drewN | apply Kd.R_drew));exact Kd.R_mono HO119.out (fun _ hk => trivial)⟩,⟨by (with_reducible repeat (first | apply Kd.R_alloc | apply Kd.R_drewN | apply Kd.R_drew));exact Kd.R_mono HO122.out (fun _ hk => trivial)⟩,⟨by repeat (first | (with_reducible first | exact HB.out | apply below_alloc | apply pw_below_drewN | apply below_drew1) | exact HB.out)⟩⟩
    case rest =>
     clear HC17;(try clear c1);(try clear c2);(try clear p2);(try clear c3);(try clear c4);(try clear c4b0);(try clear c4b1);(try clear c6);(try clear c6b0);(try clear c8);(try clear c8b0);(try clear c12);(try clear c15);(try clear c16);(try clear c32);(try clear c32b0);(try clear c32b1);obtain ⟨kq,x58_16,rfl,HA,HJ16,HO_10,HO_11,HO_12,HB⟩ := hcut
     cases kq with
     | zero => exact absurd HA.out (by simp [laws_FnExactNoticedAt.j0])
     | succ kj16 =>
      have H := HA.out;clear HA;simp only [laws_FnExactNoticedAt.j0] at H
      by_cases c33 : x58_16 = true
      ·subst c33
       have H1 : (some false) = some r := by rw [if_pos rfl] at H;exact H
       clear H;have H := H1;clear H1;obtain rfl := Option.some.inj H
       go_wp2
       go_ret
       exact ⟨by first | rfl | (simp [errW_none,errW_some,IntKind.wrap_i64,wrap64];done) | (simp [errW_none,errW_some] <;> rfl) | (simp [*,errW_none,errW_some] <;> rfl),by repeat (first | (with_reducible first | exact HB.out | apply below_alloc | apply pw_below_drewN | apply below_drew1) | exact HB.out)⟩
      ·replace c33 := Bool.eq_false_iff.mpr c33;subst c33
       have H1 : ((laws_toShipS.f kj16 l0).bind fun t125 => ((laws_eqShipS.f kj16 t114 t125).bind fun t128 => (if t128 = true then ((laws_toHoist.f kj16 l1).bind fun t129 => ((laws_eqHoist.f kj16 t117 t129).bind fun t132 => (if t132 = true then ((laws_toFaultS.f kj16 l2).bind fun t133 => ((laws_eqFaultS.f kj16 t120 t133).bind fun t136 => (if t136 = true then (some true) else (some false)))) else (some false)))) else (some false)))) = some r := by rw [if_neg (show ¬ (false = true) by decide)] at H;exact H
       clear H;have H := H1;clear H1;replace H := Option.bind_eq_some_iff.mp H;obtain ⟨t125,A340,H⟩ := H;replace H : ((laws_eqShipS.f kj16 t114 t125).bind fun t128 => (if t128 = true then ((laws_toHoist.f kj16 l1).bind fun t129 => ((laws_eqHoist.f kj16 t117 t129).bind fun t132 => (if t132 = true then ((laws_toFaultS.f kj16 l2).bind fun t133 => ((laws_eqFaultS.f kj16 t120 t133).bind fun t136 => (if t136 = true then (some true) else (some false)))) else (some false)))) else (some false))) = some r := H;have A34 := Aside0.mk A340;clear A340;replace H := Option.bind_eq_some_iff.mp H;obtain ⟨t128,A350,H⟩ := H;replace H : (if t128 = true then ((laws_toHoist.f kj16 l1).bind fun t129 => ((laws_eqHoist.f kj16 t117 t129).bind fun t132 => (if t132 = true then ((laws_toFaultS.f kj16 l2).bind fun t133 => ((laws_eqFaultS.f kj16 t120 t133).bind fun t136 => (if t136 = true then (some true) else (some false)))) else (some false)))) else (some false)) = some r := H;have A35 := Aside0.mk A350;clear A350
       by_cases c36 : t128 = true
       ·subst c36
        have H1 : ((laws_toHoist.f kj16 l1).bind fun t129 => ((laws_eqHoist.f kj16 t117 t129).bind fun t132 => (if t132 = true then ((laws_toFaultS.f kj16 l2).bind fun t133 => ((laws_eqFaultS.f kj16 t120 t133).bind fun t136 => (if t136 = true then (some true) else (some false)))) else (some false)))) = some r := by rw [if_pos rfl] at H;exact H
        clear H;have H := H1;clear H1;replace H := Option.bind_eq_some_iff.mp H;obtain ⟨t129,A370,H⟩ := H;replace H : ((laws_eqHoist.f kj16 t117 t129).bind fun t132 => (if t132 = true then ((laws_toFaultS.f kj16 l2).bind fun t133 => ((laws_eqFaultS.f kj16 t120 t133).bind fun t136 => (if t136 = true then (some true) else (some false)))) else (some false))) = some r := H;have A37 := Aside0.mk A370;clear A370;replace H := Option.bind_eq_some_iff.mp H;obtain ⟨t132,A380,H⟩ := H;replace H : (if t132 = true then ((laws_toFaultS.f kj16 l2).bind fun t133 => ((laws_eqFaultS.f kj16 t120 t133).bind fun t136 => (if t136 = true then (some true) else (some false)))) else (some false)) = some r := H;have A38 := Aside0.mk A380;clear A380
        by_cases c39 : t132 = true
        ·subst c39
         have H1 : ((laws_toFaultS.f kj16 l2).bind fun t133 => ((laws_eqFaultS.f kj16 t120 t133).bind fun t136 => (if t136 = true then (some true) else (some false)))) = some r := by rw [if_pos rfl] at H;exact H
         clear H;have H := H1;clear H1;replace H := Option.bind_eq_some_iff.mp H;obtain ⟨t133,A400,H⟩ := H;replace H : ((laws_eqFaultS.f kj16 t120 t133).bind fun t136 => (if t136 = true then (some true) else (some false))) = some r := H;have A40 := Aside0.mk A400;clear A400;replace H := Option.bind_eq_some_iff.mp H;obtain ⟨t136,A410,H⟩ := H;replace H : (if t136 = true then (some true) else (some false)) = some r := H;have A41 := Aside0.mk A410;clear A410
         by_cases c42 : t136 = true
         ·subst c42
          have H1 : (some true) = some r := by rw [if_pos rfl] at H;exact H
          clear H;have H := H1;clear H1;obtain rfl := Option.some.inj H
          go_wp2_with (first | ((with_reducible refine gate_callee (f := 15) rfl ?_);refine goesL_ (some 61) rfl rfl Try.func15 (by kernel_rfl) rfl #[.slice A0 l0.length c0] rfl (by (try simp only [List.map_toArray,List.map_cons,List.map_nil]);first | done | rfl | (simp only [List.length_drop,List.length_take];rfl)) ?_;(with_reducible refine (laws_toShipS.calls kj16 _ _ l0 t125 _ ?side1 ?side2 A34.out).mono ?_);(case side1 => repeat (first | exact (Kd.C_below HR0.out HB.out) | (with_reducible refine Kd.C_alloc ?_ _) | (with_reducible refine Kd.C_drewN ?_ _) | (with_reducible refine Kd.C_drew ?_)));(case side2 => exact HC0.out);rintro e w43 ⟨v126,rfl,ho0,hb⟩;refine ⟨_,rfl,?_⟩;have n0_ := Aside0.mk (Kd.R_elder' (by (with_reducible repeat (first | apply Kd.R_alloc | apply Kd.R_drewN | apply Kd.R_drew));exact HO_10.out) (Kd.R_base ho0) hb);have n1_ := Aside0.mk (Kd.R_below (by (with_reducible repeat (first | apply Kd.R_alloc | apply Kd.R_drewN | apply Kd.R_drew));exact HO_11.out) hb);have n2_ := Aside0.mk (Kd.R_below (by (with_reducible repeat (first | apply Kd.R_alloc | apply Kd.R_drewN | apply Kd.R_drew));exact HO_12.out) hb);have n3_ := Aside0.mk (Kd.R_lower (Kd.R_new' ho0 (Kd.R_lt (by (with_reducible repeat (first | apply Kd.R_alloc | apply Kd.R_drewN | apply Kd.R_drew));exact HO_10.out))) (below_size (by repeat (first | (with_reducible first | exact HB.out | apply below_alloc | apply pw_below_drewN | apply below_drew1) | exact HB.out))));have n4_ := Aside0.mk (below_step (by repeat (first | (with_reducible first | exact HB.out | apply below_alloc | apply pw_below_drewN | apply below_drew1) | exact HB.out)) hb);clear HO_10;clear HO_11;clear HO_12;clear HB;have HO_10 := n0_;have HO_11 := n1_;have HO_12 := n2_;have HO127 := n3_;have HB := n4_;clear n0_ n1_ n2_ n3_ n4_;(try clear hb);(try clear hb2);(try clear hk);(try clear hi);(try clear ho0);obtain ⟨Ao44,co44,eo44⟩ := Kd.R_slice HO127.out;subst eo44) | ((with_reducible refine gate_callee (f := 19) rfl ?_);refine goesL_ (some 62) rfl rfl Try.func19 (by kernel_rfl) rfl #[.slice Ao28 t114.length co28,.slice Ao44 t125.length co44] rfl (by (try simp only [List.map_toArray,List.map_cons,List.map_nil]);first | done | rfl | (simp only [List.length_drop,List.length_take];rfl)) ?_;(with_reducible refine (laws_eqShipS.calls kj16 _ _ t114 _ _ t125 true _ ?side1 ?side2 ?side3 ?side4 A35.out).mono ?_);(case side1 => repeat (first | exact (Kd.R_reads' HO_10.out).2.2 | (with_reducible refine Kd.C_alloc ?_ _) | (with_reducible refine Kd.C_drewN ?_ _) | (with_reducible refine Kd.C_drew ?_)));(case side2 => exact (Kd.R_reads' HO_10.out).2.1);(case side3 => repeat (first | exact (Kd.R_reads' HO127.out).2.2 | (with_reducible refine Kd.C_alloc ?_ _) | (with_reducible refine Kd.C_drewN ?_ _) | (with_reducible refine Kd.C_drew ?_)));(case side4 => exact (Kd.R_reads' HO127.out).2.1);rintro e w45 ⟨rfl,hb⟩;refine ⟨_,rfl,?_⟩;have n0_ := Aside0.mk (Kd.R_below (by (with_reducible repeat (first | apply Kd.R_alloc | apply Kd.R_drewN | apply Kd.R_drew));exact HO_10.out) hb);have n1_ := Aside0.mk (Kd.R_below (by (with_reducible repeat (first | apply Kd.R_alloc | apply Kd.R_drewN | apply Kd.R_drew));exact HO_11.out) hb);have n2_ := Aside0.mk (Kd.R_below (by (with_reducible repeat (first | apply Kd.R_alloc | apply Kd.R_drewN | apply Kd.R_drew));exact HO_12.out) hb);have n3_ := Aside0.mk (Kd.R_below (by (with_reducible repeat (first | apply Kd.R_alloc | apply Kd.R_drewN | apply Kd.R_drew));exact HO127.out) hb);have n4_ := Aside0.mk (below_step (by repeat (first | (with_reducible first | exact HB.out | apply below_alloc | apply pw_below_drewN | apply below_drew1) | exact HB.out)) hb);clear HO_10;clear HO_11;clear HO_12;clear HO127;clear HB;have HO_10 := n0_;have HO_11 := n1_;have HO_12 := n2_;have HO127 := n3_;have HB := n4_;clear n0_ n1_ n2_ n3_ n4_;(try clear hb);(try clear hb2);(try clear hk);(try clear hi)) | ((with_reducible refine gate_callee (f := 16) rfl ?_);refine goesL_ (some 66) rfl rfl Try.func16 (by kernel_rfl) rfl #[.slice A1 l1.length c1] rfl (by (try simp only [List.map_toArray,List.map_cons,List.map_nil]);first | done | rfl | (simp only [List.length_drop,List.length_take];rfl)) ?_;(with_reducible refine (laws_toHoist.calls kj16 _ _ l1 t129 _ ?side1 ?side2 A37.out).mono ?_);(case side1 => repeat (first | exact (Kd.C_below HR1.out HB.out) | (with_reducible refine Kd.C_alloc ?_ _) | (with_reducible refine Kd.C_drewN ?_ _) | (with_reducible refine Kd.C_drew ?_)));(case side2 => exact HC1.out);rintro e w46 ⟨v130,rfl,ho0,hb⟩;refine ⟨_,rfl,?_⟩;have n0_ := Aside0.mk (Kd.R_below (by (with_reducible repeat (first | apply Kd.R_alloc | apply Kd.R_drewN | apply Kd.R_drew));exact HO_10.out) hb);have n1_ := Aside0.mk (Kd.R_elder' (by (with_reducible repeat (first | apply Kd.R_alloc | apply Kd.R_drewN | apply Kd.R_drew));exact HO_11.out) (Kd.R_base ho0) hb);have n2_ := Aside0.mk (Kd.R_below (by (with_reducible repeat (first | apply Kd.R_alloc | apply Kd.R_drewN | apply Kd.R_drew));exact HO_12.out) hb);have n3_ := Aside0.mk (Kd.R_below (by (with_reducible repeat (first | apply Kd.R_alloc | apply Kd.R_drewN | apply Kd.R_drew));exact HO127.out) hb);have n4_ := Aside0.mk (Kd.R_lower (Kd.R_new' ho0 (Kd.R_lt (by (with_reducible repeat (first | apply Kd.R_alloc | apply Kd.R_drewN | apply Kd.R_drew));exact HO_11.out))) (below_size (by repeat (first | (with_reducible first | exact HB.out | apply below_alloc | apply pw_below_drewN | apply below_drew1) | exact HB.out))));have n5_ := Aside0.mk (below_step (by repeat (first | (with_reducible first | exact HB.out | apply below_alloc | apply pw_below_drewN | apply below_drew1) | exact HB.out)) hb);clear HO_10;clear HO_11;clear HO_12;clear HO127;clear HB;have HO_10 := n0_;have HO_11 := n1_;have HO_12 := n2_;have HO127 := n3_;have HO131 := n4_;have HB := n5_;clear n0_ n1_ n2_ n3_ n4_ n5_;(try clear hb);(try clear hb2);(try clear hk);(try clear hi);(try clear ho0);obtain ⟨Ao47,co47,eo47⟩ := Kd.R_slice HO131.out;subst eo47) | ((with_reducible refine gate_callee (f := 20) rfl ?_);refine goesL_ (some 67) rfl rfl Try.func20 (by kernel_rfl) rfl #[.slice Ao29 t117.length co29,.slice Ao47 t129.length co47] rfl (by (try simp only [List.map_toArray,List.map_cons,List.map_nil]);first | done | rfl | (simp only [List.length_drop,List.length_take];rfl)) ?_;(with_reducible refine (laws_eqHoist.calls kj16 _ _ t117 _ _ t129 true _ ?side1 ?side2 ?side3 ?side4 A38.out).mono ?_);(case side1 => repeat (first | exact (Kd.R_reads' HO_11.out).2.2 | (with_reducible refine Kd.C_alloc ?_ _) | (with_reducible refine Kd.C_drewN ?_ _) | (with_reducible refine Kd.C_drew ?_)));(case side2 => exact (Kd.R_reads' HO_11.out).2.1);(case side3 => repeat (first | exact (Kd.R_reads' HO131.out).2.2 | (with_reducible refine Kd.C_alloc ?_ _) | (with_reducible refine Kd.C_drewN ?_ _) | (with_reducible refine Kd.C_drew ?_)));(case side4 => exact (Kd.R_reads' HO131.out).2.1);rintro e w' ⟨rfl,⟨nd,rfl⟩⟩;refine ⟨_,rfl,?_⟩) | ((with_reducible refine gate_callee (f := 35) rfl ?_);refine goesL_ (some 71) rfl rfl Try.func35 (by kernel_rfl) rfl #[.slice A2 l2.length c2] rfl (by (try simp only [List.map_toArray,List.map_cons,List.map_nil]);first | done | rfl | (simp only [List.length_drop,List.length_take];rfl)) ?_;(with_reducible refine (laws_toFaultS.calls kj16 _ _ l2 t133 _ ?side1 ?side2 A40.out).mono ?_);(case side1 => repeat (first | exact (Kd.C_below HR2.out (by repeat (first | (with_reducible first | exact HB.out | apply below_alloc | apply pw_below_drewN | apply below_drew1) | exact HB.out))) | (with_reducible refine Kd.C_alloc ?_ _) | (with_reducible refine Kd.C_drewN ?_ _) | (with_reducible refine Kd.C_drew ?_)));(case side2 => exact HC2.out);rintro e w48 ⟨v134,rfl,ho0,hb⟩;refine ⟨_,rfl,?_⟩;have n0_ := Aside0.mk (Kd.R_below (by (with_reducible repeat (first | apply Kd.R_alloc | apply Kd.R_drewN | apply Kd.R_drew));exact HO_10.out) hb);have n1_ := Aside0.mk (Kd.R_below (by (with_reducible repeat (first | apply Kd.R_alloc | apply Kd.R_drewN | apply Kd.R_drew));exact HO_11.out) hb);have n2_ := Aside0.mk (Kd.R_elder' (by (with_reducible repeat (first | apply Kd.R_alloc | apply Kd.R_drewN | apply Kd.R_drew));exact HO_12.out) (Kd.R_base ho0) hb);have n3_ := Aside0.mk (Kd.R_below (by (with_reducible repeat (first | apply Kd.R_alloc | apply Kd.R_drewN | apply Kd.R_drew));exact HO127.out) hb);have n4_ := Aside0.mk (Kd.R_below (by (with_reducible repeat (first | apply Kd.R_alloc | apply Kd.R_drewN | apply Kd.R_drew));exact HO131.out) hb);have n5_ := Aside0.mk (Kd.R_lower (Kd.R_new' ho0 (Kd.R_lt (by (with_reducible repeat (first | apply Kd.R_alloc | apply Kd.R_drewN | apply Kd.R_drew));exact HO_12.out))) (below_size (by repeat (first | (with_reducible first | exact HB.out | apply below_alloc | apply pw_below_drewN | apply below_drew1) | exact HB.out))));have n6_ := Aside0.mk (below_step (by repeat (first | (with_reducible first | exact HB.out | apply below_alloc | apply pw_below_drewN | apply below_drew1) | exact HB.out)) hb);clear HO_10;clear HO_11;clear HO_12;clear HO127;clear HO131;clear HB;have HO_10 := n0_;have HO_11 := n1_;have HO_12 := n2_;have HO127 := n3_;have HO131 := n4_;have HO135 := n5_;have HB := n6_;clear n0_ n1_ n2_ n3_ n4_ n5_ n6_;(try clear hb);(try clear hb2);(try clear hk);(try clear hi);(try clear ho0);obtain ⟨Ao49,co49,eo49⟩ := Kd.R_slice HO135.out;subst eo49) | ((with_reducible refine gate_callee (f := 37) rfl ?_);refine goesL_ (some 72) rfl rfl Try.func37 (by kernel_rfl) rfl #[.slice Ao30 t120.length co30,.slice Ao49 t133.length co49] rfl (by (try simp only [List.map_toArray,List.map_cons,List.map_nil]);first | done | rfl | (simp only [List.length_drop,List.length_take];rfl)) ?_;(with_reducible refine (laws_eqFaultS.calls kj16 _ _ t120 _ _ t133 true _ ?side1 ?side2 ?side3 ?side4 A41.out).mono ?_);(case side1 => repeat (first | exact (Kd.R_reads' HO_12.out).2.2 | (with_reducible refine Kd.C_alloc ?_ _) | (with_reducible refine Kd.C_drewN ?_ _) | (with_reducible refine Kd.C_drew ?_)));(case side2 => exact (Kd.R_reads' HO_12.out).2.1);(case side3 => repeat (first | exact (Kd.R_reads' HO135.out).2.2 | (with_reducible refine Kd.C_alloc ?_ _) | (with_reducible refine Kd.C_drewN ?_ _) | (with_reducible refine Kd.C_drew ?_)));(case side4 => exact (Kd.R_reads' HO135.out).2.1);rintro e w50 ⟨rfl,hb⟩;refine ⟨_,rfl,?_⟩;have n0_ := Aside0.mk (Kd.R_below (by (with_reducible repeat (first | apply Kd.R_alloc | apply Kd.R_drewN | apply Kd.R_drew));exact HO_10.out) hb);have n1_ := Aside0.mk (Kd.R_below (by (with_reducible repeat (first | apply Kd.R_alloc | apply Kd.R_drewN | apply Kd.R_drew));exact HO_11.out) hb);have n2_ := Aside0.mk (Kd.R_below (by (with_reducible repeat (first | apply Kd.R_alloc | apply Kd.R_drewN | apply Kd.R_drew));exact HO_12.out) hb);have n3_ := Aside0.mk (Kd.R_below (by (with_reducible repeat (first | apply Kd.R_alloc | apply Kd.R_drewN | apply Kd.R_drew));exact HO127.out) hb);have n4_ := Aside0.mk (Kd.R_below (by (with_reducible repeat (first | apply Kd.R_alloc | apply Kd.R_drewN | apply Kd.R_drew));exact HO131.out) hb);have n5_ := Aside0.mk (Kd.R_below (by (with_reducible repeat (first | apply Kd.R_alloc | apply Kd.R_drewN | apply Kd.R_drew));exact HO135.out) hb);have n6_ := Aside0.mk (below_step (by repeat (first | (with_reducible first | exact HB.out | apply below_alloc | apply pw_below_drewN | apply below_drew1) | exact HB.out)) hb);clear HO_10;clear HO_11;clear HO_12;clear HO127;clear HO131;clear HO135;clear HB;have HO_10 := n0_;have HO_11 := n1_;have HO_12 := n2_;have HO127 := n3_;have HO131 := n4_;have HO135 := n5_;have HB := n6_;clear n0_ n1_ n2_ n3_ n4_ n5_ n6_;(try clear hb);(try clear hb2);(try clear hk);(try clear hi)))
          go_ret
          exact ⟨by first | rfl | (simp [errW_none,errW_some,IntKind.wrap_i64,wrap64];done) | (simp [errW_none,errW_some] <;> rfl) | (simp [*,errW_none,errW_some] <;> rfl),by repeat (first | (with_reducible first | exact HB.out | apply below_alloc | apply pw_below_drewN | apply below_drew1) | exact HB.out)⟩
         ·replace c42 := Bool.eq_false_iff.mpr c42;subst c42
          have H1 : (some false) = some r := by rw [if_neg (show ¬ (false = true) by decide)] at H;exact H
          clear H;have H := H1;clear H1;obtain rfl := Option.some.inj H
          go_wp2_with (first | ((with_reducible refine gate_callee (f := 15) rfl ?_);refine goesL_ (some 61) rfl rfl Try.func15 (by kernel_rfl) rfl #[.slice A0 l0.length c0] rfl (by (try simp only [List.map_toArray,List.map_cons,List.map_nil]);first | done | rfl | (simp only [List.length_drop,List.length_take];rfl)) ?_;(with_reducible refine (laws_toShipS.calls kj16 _ _ l0 t125 _ ?side1 ?side2 A34.out).mono ?_);(case side1 => repeat (first | exact (Kd.C_below HR0.out HB.out) | (with_reducible refine Kd.C_alloc ?_ _) | (with_reducible refine Kd.C_drewN ?_ _) | (with_reducible refine Kd.C_drew ?_)));(case side2 => exact HC0.out);rintro e w51 ⟨v126,rfl,ho0,hb⟩;refine ⟨_,rfl,?_⟩;have n0_ := Aside0.mk (Kd.R_elder' (by (with_reducible repeat (first | apply Kd.R_alloc | apply Kd.R_drewN | apply Kd.R_drew));exact HO_10.out) (Kd.R_base ho0) hb);have n1_ := Aside0.mk (Kd.R_below (by (with_reducible repeat (first | apply Kd.R_alloc | apply Kd.R_drewN | apply Kd.R_drew));exact HO_11.out) hb);have n2_ := Aside0.mk (Kd.R_below (by (with_reducible repeat (first | apply Kd.R_alloc | apply Kd.R_drewN | apply Kd.R_drew));exact HO_12.out) hb);have n3_ := Aside0.mk (Kd.R_lower (Kd.R_new' ho0 (Kd.R_lt (by (with_reducible repeat (first | apply Kd.R_alloc | apply Kd.R_drewN | apply Kd.R_drew));exact HO_10.out))) (below_size (by repeat (first | (with_reducible first | exact HB.out | apply below_alloc | apply pw_below_drewN | apply below_drew1) | exact HB.out))));have n4_ := Aside0.mk (below_step (by repeat (first | (with_reducible first | exact HB.out | apply below_alloc | apply pw_below_drewN | apply below_drew1) | exact HB.out)) hb);clear HO_10;clear HO_11;clear HO_12;clear HB;have HO_10 := n0_;have HO_11 := n1_;have HO_12 := n2_;have HO127 := n3_;have HB := n4_;clear n0_ n1_ n2_ n3_ n4_;(try clear hb);(try clear hb2);(try clear hk);(try clear hi);(try clear ho0);obtain ⟨Ao52,co52,eo52⟩ := Kd.R_slice HO127.out;subst eo52) | ((with_reducible refine gate_callee (f := 19) rfl ?_);refine goesL_ (some 62) rfl rfl Try.func19 (by kernel_rfl) rfl #[.slice Ao28 t114.length co28,.slice Ao52 t125.length co52] rfl (by (try simp only [List.map_toArray,List.map_cons,List.map_nil]);first | done | rfl | (simp only [List.length_drop,List.length_take];rfl)) ?_;(with_reducible refine (laws_eqShipS.calls kj16 _ _ t114 _ _ t125 true _ ?side1 ?side2 ?side3 ?side4 A35.out).mono ?_);(case side1 => repeat (first | exact (Kd.R_reads' HO_10.out).2.2 | (with_reducible refine Kd.C_alloc ?_ _) | (with_reducible refine Kd.C_drewN ?_ _) | (with_reducible refine Kd.C_drew ?_)));(case side2 => exact (Kd.R_reads' HO_10.out).2.1);(case side3 => repeat (first | exact (Kd.R_reads' HO127.out).2.2 | (with_reducible refine Kd.C_alloc ?_ _) | (with_reducible refine Kd.C_drewN ?_ _) | (with_reducible refine Kd.C_drew ?_)));(case side4 => exact (Kd.R_reads' HO127.out).2.1);rintro e w53 ⟨rfl,hb⟩;refine ⟨_,rfl,?_⟩;have n0_ := Aside0.mk (Kd.R_below (by (with_reducible repeat (first | apply Kd.R_alloc | apply Kd.R_drewN | apply Kd.R_drew));exact HO_10.out) hb);have n1_ := Aside0.mk (Kd.R_below (by (with_reducible repeat (first | apply Kd.R_alloc | apply Kd.R_drewN | apply Kd.R_drew));exact HO_11.out) hb);have n2_ := Aside0.mk (Kd.R_below (by (with_reducible repeat (first | apply Kd.R_alloc | apply Kd.R_drewN | apply Kd.R_drew));exact HO_12.out) hb);have n3_ := Aside0.mk (Kd.R_below (by (with_reducible repeat (first | apply Kd.R_alloc | apply Kd.R_drewN | apply Kd.R_drew));exact HO127.out) hb);have n4_ := Aside0.mk (below_step (by repeat (first | (with_reducible first | exact HB.out | apply below_alloc | apply pw_below_drewN | apply below_drew1) | exact HB.out)) hb);clear HO_10;clear HO_11;clear HO_12;clear HO127;clear HB;have HO_10 := n0_;have HO_11 := n1_;have HO_12 := n2_;have HO127 := n3_;have HB := n4_;clear n0_ n1_ n2_ n3_ n4_;(try clear hb);(try clear hb2);(try clear hk);(try clear hi)) | ((with_reducible refine gate_callee (f := 16) rfl ?_);refine goesL_ (some 66) rfl rfl Try.func16 (by kernel_rfl) rfl #[.slice A1 l1.length c1] rfl (by (try simp only [List.map_toArray,List.map_cons,List.map_nil]);first | done | rfl | (simp only [List.length_drop,List.length_take];rfl)) ?_;(with_reducible refine (laws_toHoist.calls kj16 _ _ l1 t129 _ ?side1 ?side2 A37.out).mono ?_);(case side1 => repeat (first | exact (Kd.C_below HR1.out HB.out) | (with_reducible refine Kd.C_alloc ?_ _) | (with_reducible refine Kd.C_drewN ?_ _) | (with_reducible refine Kd.C_drew ?_)));(case side2 => exact HC1.out);rintro e w54 ⟨v130,rfl,ho0,hb⟩;refine ⟨_,rfl,?_⟩;have n0_ := Aside0.mk (Kd.R_below (by (with_reducible repeat (first | apply Kd.R_alloc | apply Kd.R_drewN | apply Kd.R_drew));exact HO_10.out) hb);have n1_ := Aside0.mk (Kd.R_elder' (by (with_reducible repeat (first | apply Kd.R_alloc | apply Kd.R_drewN | apply Kd.R_drew));exact HO_11.out) (Kd.R_base ho0) hb);have n2_ := Aside0.mk (Kd.R_below (by (with_reducible repeat (first | apply Kd.R_alloc | apply Kd.R_drewN | apply Kd.R_drew));exact HO_12.out) hb);have n3_ := Aside0.mk (Kd.R_below (by (with_reducible repeat (first | apply Kd.R_alloc | apply Kd.R_drewN | apply Kd.R_drew));exact HO127.out) hb);have n4_ := Aside0.mk (Kd.R_lower (Kd.R_new' ho0 (Kd.R_lt (by (with_reducible repeat (first | apply Kd.R_alloc | apply Kd.R_drewN | apply Kd.R_drew));exact HO_11.out))) (below_size (by repeat (first | (with_reducible first | exact HB.out | apply below_alloc | apply pw_below_drewN | apply below_drew1) | exact HB.out))));have n5_ := Aside0.mk (below_step (by repeat (first | (with_reducible first | exact HB.out | apply below_alloc | apply pw_below_drewN | apply below_drew1) | exact HB.out)) hb);clear HO_10;clear HO_11;clear HO_12;clear HO127;clear HB;have HO_10 := n0_;have HO_11 := n1_;have HO_12 := n2_;have HO127 := n3_;have HO131 := n4_;have HB := n5_;clear n0_ n1_ n2_ n3_ n4_ n5_;(try clear hb);(try clear hb2);(try clear hk);(try clear hi);(try clear ho0);obtain ⟨Ao55,co55,eo55⟩ := Kd.R_slice HO131.out;subst eo55) | ((with_reducible refine gate_callee (f := 20) rfl ?_);refine goesL_ (some 67) rfl rfl Try.func20 (by kernel_rfl) rfl #[.slice Ao29 t117.length co29,.slice Ao55 t129.length co55] rfl (by (try simp only [List.map_toArray,List.map_cons,List.map_nil]);first | done | rfl | (simp only [List.length_drop,List.length_take];rfl)) ?_;(with_reducible refine (laws_eqHoist.calls kj16 _ _ t117 _ _ t129 true _ ?side1 ?side2 ?side3 ?side4 A38.out).mono ?_);(case side1 => repeat (first | exact (Kd.R_reads' HO_11.out).2.2 | (with_reducible refine Kd.C_alloc ?_ _) | (with_reducible refine Kd.C_drewN ?_ _) | (with_reducible refine Kd.C_drew ?_)));(case side2 => exact (Kd.R_reads' HO_11.out).2.1);(case side3 => repeat (first | exact (Kd.R_reads' HO131.out).2.2 | (with_reducible refine Kd.C_alloc ?_ _) | (with_reducible refine Kd.C_drewN ?_ _) | (with_reducible refine Kd.C_drew ?_)));(case side4 => exact (Kd.R_reads' HO131.out).2.1);rintro e w' ⟨rfl,⟨nd,rfl⟩⟩;refine ⟨_,rfl,?_⟩) | ((with_reducible refine gate_callee (f := 35) rfl ?_);refine goesL_ (some 71) rfl rfl Try.func35 (by kernel_rfl) rfl #[.slice A2 l2.length c2] rfl (by (try simp only [List.map_toArray,List.map_cons,List.map_nil]);first | done | rfl | (simp only [List.length_drop,List.length_take];rfl)) ?_;(with_reducible refine (laws_toFaultS.calls kj16 _ _ l2 t133 _ ?side1 ?side2 A40.out).mono ?_);(case side1 => repeat (first | exact (Kd.C_below HR2.out (by repeat (first | (with_reducible first | exact HB.out | apply below_alloc | apply pw_below_drewN | apply below_drew1) | exact HB.out))) | (with_reducible refine Kd.C_alloc ?_ _) | (with_reducible refine Kd.C_drewN ?_ _) | (with_reducible refine Kd.C_drew ?_)));(case side2 => exact HC2.out);rintro e w56 ⟨v134,rfl,ho0,hb⟩;refine ⟨_,rfl,?_⟩;have n0_ := Aside0.mk (Kd.R_below (by (with_reducible repeat (first | apply Kd.R_alloc | apply Kd.R_drewN | apply Kd.R_drew));exact HO_10.out) hb);have n1_ := Aside0.mk (Kd.R_below (by (with_reducible repeat (first | apply Kd.R_alloc | apply Kd.R_drewN | apply Kd.R_drew));exact HO_11.out) hb);have n2_ := Aside0.mk (Kd.R_elder' (by (with_reducible repeat (first | apply Kd.R_alloc | apply Kd.R_drewN | apply Kd.R_drew));exact HO_12.out) (Kd.R_base ho0) hb);have n3_ := Aside0.mk (Kd.R_below (by (with_reducible repeat (first | apply Kd.R_alloc | apply Kd.R_drewN | apply Kd.R_drew));exact HO127.out) hb);have n4_ := Aside0.mk (Kd.R_below (by (with_reducible repeat (first | apply Kd.R_alloc | apply Kd.R_drewN | apply Kd.R_drew));exact HO131.out) hb);have n5_ := Aside0.mk (Kd.R_lower (Kd.R_new' ho0 (Kd.R_lt (by (with_reducible repeat (first | apply Kd.R_alloc | apply Kd.R_drewN | apply Kd.R_drew));exact HO_12.out))) (below_size (by repeat (first | (with_reducible first | exact HB.out | apply below_alloc | apply pw_below_drewN | apply below_drew1) | exact HB.out))));have n6_ := Aside0.mk (below_step (by repeat (first | (with_reducible first | exact HB.out | apply below_alloc | apply pw_below_drewN | apply below_drew1) | exact HB.out)) hb);clear HO_10;clear HO_11;clear HO_12;clear HO127;clear HO131;clear HB;have HO_10 := n0_;have HO_11 := n1_;have HO_12 := n2_;have HO127 := n3_;have HO131 := n4_;have HO135 := n5_;have HB := n6_;clear n0_ n1_ n2_ n3_ n4_ n5_ n6_;(try clear hb);(try clear hb2);(try clear hk);(try clear hi);(try clear ho0);obtain ⟨Ao57,co57,eo57⟩ := Kd.R_slice HO135.out;subst eo57) | ((with_reducible refine gate_callee (f := 37) rfl ?_);refine goesL_ (some 72) rfl rfl Try.func37 (by kernel_rfl) rfl #[.slice Ao30 t120.length co30,.slice Ao57 t133.length co57] rfl (by (try simp only [List.map_toArray,List.map_cons,List.map_nil]);first | done | rfl | (simp only [List.length_drop,List.length_take];rfl)) ?_;(with_reducible refine (laws_eqFaultS.calls kj16 _ _ t120 _ _ t133 false _ ?side1 ?side2 ?side3 ?side4 A41.out).mono ?_);(case side1 => repeat (first | exact (Kd.R_reads' HO_12.out).2.2 | (with_reducible refine Kd.C_alloc ?_ _) | (with_reducible refine Kd.C_drewN ?_ _) | (with_reducible refine Kd.C_drew ?_)));(case side2 => exact (Kd.R_reads' HO_12.out).2.1);(case side3 => repeat (first | exact (Kd.R_reads' HO135.out).2.2 | (with_reducible refine Kd.C_alloc ?_ _) | (with_reducible refine Kd.C_drewN ?_ _) | (with_reducible refine Kd.C_drew ?_)));(case side4 => exact (Kd.R_reads' HO135.out).2.1);rintro e w58 ⟨rfl,hb⟩;refine ⟨_,rfl,?_⟩;have n0_ := Aside0.mk (Kd.R_below (by (with_reducible repeat (first | apply Kd.R_alloc | apply Kd.R_drewN | apply Kd.R_drew));exact HO_10.out) hb);have n1_ := Aside0.mk (Kd.R_below (by (with_reducible repeat (first | apply Kd.R_alloc | apply Kd.R_drewN | apply Kd.R_drew));exact HO_11.out) hb);have n2_ := Aside0.mk (Kd.R_below (by (with_reducible repeat (first | apply Kd.R_alloc | apply Kd.R_drewN | apply Kd.R_drew));exact HO_12.out) hb);have n3_ := Aside0.mk (Kd.R_below (by (with_reducible repeat (first | apply Kd.R_alloc | apply Kd.R_drewN | apply Kd.R_drew));exact HO127.out) hb);have n4_ := Aside0.mk (Kd.R_below (by (with_reducible repeat (first | apply Kd.R_alloc | apply Kd.R_drewN | apply Kd.R_drew));exact HO131.out) hb);have n5_ := Aside0.mk (Kd.R_below (by (with_reducible repeat (first | apply Kd.R_alloc | apply Kd.R_drewN | apply Kd.R_drew));exact HO135.out) hb);have n6_ := Aside0.mk (below_step (by repeat (first | (with_reducible first | exact HB.out | apply below_alloc | apply pw_below_drewN | apply below_drew1) | exact HB.out)) hb);clear HO_10;clear HO_11;clear HO_12;clear HO127;clear HO131;clear HO135;clear HB;have HO_10 := n0_;have HO_11 := n1_;have HO_12 := n2_;have HO127 := n3_;have HO131 := n4_;have HO135 := n5_;have HB := n6_;clear n0_ n1_ n2_ n3_ n4_ n5_ n6_;(try clear hb);(try clear hb2);(try clear hk);(try clear hi)))
          go_ret
          exact ⟨by first | rfl | (simp [errW_none,errW_some,IntKind.wrap_i64,wrap64];done) | (simp [errW_none,errW_some] <;> rfl) | (simp [*,errW_none,errW_some] <;> rfl),by repeat (first | (with_reducible first | exact HB.out | apply below_alloc | apply pw_below_drewN | apply below_drew1) | exact HB.out)⟩
        ·replace c39 := Bool.eq_false_iff.mpr c39;subst c39
         have H1 : (some false) = some r := by rw [if_neg (show ¬ (false = true) by decide)] at H;exact H
         clear H;have H := H1;clear H1;obtain rfl := Option.some.inj H
         go_wp2_with (first | ((with_reducible refine gate_callee (f := 15) rfl ?_);refine goesL_ (some 61) rfl rfl Try.func15 (by kernel_rfl) rfl #[.slice A0 l0.length c0] rfl (by (try simp only [List.map_toArray,List.map_cons,List.map_nil]);first | done | rfl | (simp only [List.length_drop,List.length_take];rfl)) ?_;(with_reducible refine (laws_toShipS.calls kj16 _ _ l0 t125 _ ?side1 ?side2 A34.out).mono ?_);(case side1 => repeat (first | exact (Kd.C_below HR0.out HB.out) | (with_reducible refine Kd.C_alloc ?_ _) | (with_reducible refine Kd.C_drewN ?_ _) | (with_reducible refine Kd.C_drew ?_)));(case side2 => exact HC0.out);rintro e w59 ⟨v126,rfl,ho0,hb⟩;refine ⟨_,rfl,?_⟩;have n0_ := Aside0.mk (Kd.R_elder' (by (with_reducible repeat (first | apply Kd.R_alloc | apply Kd.R_drewN | apply Kd.R_drew));exact HO_10.out) (Kd.R_base ho0) hb);have n1_ := Aside0.mk (Kd.R_below (by (with_reducible repeat (first | apply Kd.R_alloc | apply Kd.R_drewN | apply Kd.R_drew));exact HO_11.out) hb);have n2_ := Aside0.mk (Kd.R_below (by (with_reducible repeat (first | apply Kd.R_alloc | apply Kd.R_drewN | apply Kd.R_drew));exact HO_12.out) hb);have n3_ := Aside0.mk (Kd.R_lower (Kd.R_new' ho0 (Kd.R_lt (by (with_reducible repeat (first | apply Kd.R_alloc | apply Kd.R_drewN | apply Kd.R_drew));exact HO_10.out))) (below_size (by repeat (first | (with_reducible first | exact HB.out | apply below_alloc | apply pw_below_drewN | apply below_drew1) | exact HB.out))));have n4_ := Aside0.mk (below_step (by repeat (first | (with_reducible first | exact HB.out | apply below_alloc | apply pw_below_drewN | apply below_drew1) | exact HB.out)) hb);clear HO_10;clear HO_11;clear HO_12;clear HB;have HO_10 := n0_;have HO_11 := n1_;have HO_12 := n2_;have HO127 := n3_;have HB := n4_;clear n0_ n1_ n2_ n3_ n4_;(try clear hb);(try clear hb2);(try clear hk);(try clear hi);(try clear ho0);obtain ⟨Ao60,co60,eo60⟩ := Kd.R_slice HO127.out;subst eo60) | ((with_reducible refine gate_callee (f := 19) rfl ?_);refine goesL_ (some 62) rfl rfl Try.func19 (by kernel_rfl) rfl #[.slice Ao28 t114.length co28,.slice Ao60 t125.length co60] rfl (by (try simp only [List.map_toArray,List.map_cons,List.map_nil]);first | done | rfl | (simp only [List.length_drop,List.length_take];rfl)) ?_;(with_reducible refine (laws_eqShipS.calls kj16 _ _ t114 _ _ t125 true _ ?side1 ?side2 ?side3 ?side4 A35.out).mono ?_);(case side1 => repeat (first | exact (Kd.R_reads' HO_10.out).2.2 | (with_reducible refine Kd.C_alloc ?_ _) | (with_reducible refine Kd.C_drewN ?_ _) | (with_reducible refine Kd.C_drew ?_)));(case side2 => exact (Kd.R_reads' HO_10.out).2.1);(case side3 => repeat (first | exact (Kd.R_reads' HO127.out).2.2 | (with_reducible refine Kd.C_alloc ?_ _) | (with_reducible refine Kd.C_drewN ?_ _) | (with_reducible refine Kd.C_drew ?_)));(case side4 => exact (Kd.R_reads' HO127.out).2.1);rintro e w61 ⟨rfl,hb⟩;refine ⟨_,rfl,?_⟩;have n0_ := Aside0.mk (Kd.R_below (by (with_reducible repeat (first | apply Kd.R_alloc | apply Kd.R_drewN | apply Kd.R_drew));exact HO_10.out) hb);have n1_ := Aside0.mk (Kd.R_below (by (with_reducible repeat (first | apply Kd.R_alloc | apply Kd.R_drewN | apply Kd.R_drew));exact HO_11.out) hb);have n2_ := Aside0.mk (Kd.R_below (by (with_reducible repeat (first | apply Kd.R_alloc | apply Kd.R_drewN | apply Kd.R_drew));exact HO_12.out) hb);have n3_ := Aside0.mk (Kd.R_below (by (with_reducible repeat (first | apply Kd.R_alloc | apply Kd.R_drewN | apply Kd.R_drew));exact HO127.out) hb);have n4_ := Aside0.mk (below_step (by repeat (first | (with_reducible first | exact HB.out | apply below_alloc | apply pw_below_drewN | apply below_drew1) | exact HB.out)) hb);clear HO_10;clear HO_11;clear HO_12;clear HO127;clear HB;have HO_10 := n0_;have HO_11 := n1_;have HO_12 := n2_;have HO127 := n3_;have HB := n4_;clear n0_ n1_ n2_ n3_ n4_;(try clear hb);(try clear hb2);(try clear hk);(try clear hi)) | ((with_reducible refine gate_callee (f := 16) rfl ?_);refine goesL_ (some 66) rfl rfl Try.func16 (by kernel_rfl) rfl #[.slice A1 l1.length c1] rfl (by (try simp only [List.map_toArray,List.map_cons,List.map_nil]);first | done | rfl | (simp only [List.length_drop,List.length_take];rfl)) ?_;(with_reducible refine (laws_toHoist.calls kj16 _ _ l1 t129 _ ?side1 ?side2 A37.out).mono ?_);(case side1 => repeat (first | exact (Kd.C_below HR1.out HB.out) | (with_reducible refine Kd.C_alloc ?_ _) | (with_reducible refine Kd.C_drewN ?_ _) | (with_reducible refine Kd.C_drew ?_)));(case side2 => exact HC1.out);rintro e w62 ⟨v130,rfl,ho0,hb⟩;refine ⟨_,rfl,?_⟩;have n0_ := Aside0.mk (Kd.R_below (by (with_reducible repeat (first | apply Kd.R_alloc | apply Kd.R_drewN | apply Kd.R_drew));exact HO_10.out) hb);have n1_ := Aside0.mk (Kd.R_elder' (by (with_reducible repeat (first | apply Kd.R_alloc | apply Kd.R_drewN | apply Kd.R_drew));exact HO_11.out) (Kd.R_base ho0) hb);have n2_ := Aside0.mk (Kd.R_below (by (with_reducible repeat (first | apply Kd.R_alloc | apply Kd.R_drewN | apply Kd.R_drew));exact HO_12.out) hb);have n3_ := Aside0.mk (Kd.R_below (by (with_reducible repeat (first | apply Kd.R_alloc | apply Kd.R_drewN | apply Kd.R_drew));exact HO127.out) hb);have n4_ := Aside0.mk (Kd.R_lower (Kd.R_new' ho0 (Kd.R_lt (by (with_reducible repeat (first | apply Kd.R_alloc | apply Kd.R_drewN | apply Kd.R_drew));exact HO_11.out))) (below_size (by repeat (first | (with_reducible first | exact HB.out | apply below_alloc | apply pw_below_drewN | apply below_drew1) | exact HB.out))));have n5_ := Aside0.mk (below_step (by repeat (first | (with_reducible first | exact HB.out | apply below_alloc | apply pw_below_drewN | apply below_drew1) | exact HB.out)) hb);clear HO_10;clear HO_11;clear HO_12;clear HO127;clear HB;have HO_10 := n0_;have HO_11 := n1_;have HO_12 := n2_;have HO127 := n3_;have HO131 := n4_;have HB := n5_;clear n0_ n1_ n2_ n3_ n4_ n5_;(try clear hb);(try clear hb2);(try clear hk);(try clear hi);(try clear ho0);obtain ⟨Ao63,co63,eo63⟩ := Kd.R_slice HO131.out;subst eo63) | ((with_reducible refine gate_callee (f := 20) rfl ?_);refine goesL_ (some 67) rfl rfl Try.func20 (by kernel_rfl) rfl #[.slice Ao29 t117.length co29,.slice Ao63 t129.length co63] rfl (by (try simp only [List.map_toArray,List.map_cons,List.map_nil]);first | done | rfl | (simp only [List.length_drop,List.length_take];rfl)) ?_;(with_reducible refine (laws_eqHoist.calls kj16 _ _ t117 _ _ t129 false _ ?side1 ?side2 ?side3 ?side4 A38.out).mono ?_);(case side1 => repeat (first | exact (Kd.R_reads' HO_11.out).2.2 | (with_reducible refine Kd.C_alloc ?_ _) | (with_reducible refine Kd.C_drewN ?_ _) | (with_reducible refine Kd.C_drew ?_)));(case side2 => exact (Kd.R_reads' HO_11.out).2.1);(case side3 => repeat (first | exact (Kd.R_reads' HO131.out).2.2 | (with_reducible refine Kd.C_alloc ?_ _) | (with_reducible refine Kd.C_drewN ?_ _) | (with_reducible refine Kd.C_drew ?_)));(case side4 => exact (Kd.R_reads' HO131.out).2.1);rintro e w' ⟨rfl,⟨nd,rfl⟩⟩;refine ⟨_,rfl,?_⟩))
         go_ret
         exact ⟨by first | rfl | (simp [errW_none,errW_some,IntKind.wrap_i64,wrap64];done) | (simp [errW_none,errW_some] <;> rfl) | (simp [*,errW_none,errW_some] <;> rfl),by repeat (first | (with_reducible first | exact HB.out | apply below_alloc | apply pw_below_drewN | apply below_drew1) | exact HB.out)⟩
       ·replace c36 := Bool.eq_false_iff.mpr c36;subst c36
        have H1 : (some false) = some r := by rw [if_neg (show ¬ (false = true) by decide)] at H;exact H
        clear H;have H := H1;clear H1;obtain rfl := Option.some.inj H
        go_wp2_with (first | ((with_reducible refine gate_callee (f := 15) rfl ?_);refine goesL_ (some 61) rfl rfl Try.func15 (by kernel_rfl) rfl #[.slice A0 l0.length c0] rfl (by (try simp only [List.map_toArray,List.map_cons,List.map_nil]);first | done | rfl | (simp only [List.length_drop,List.length_take];rfl)) ?_;(with_reducible refine (laws_toShipS.calls kj16 _ _ l0 t125 _ ?side1 ?side2 A34.out).mono ?_);(case side1 => repeat (first | exact (Kd.C_below HR0.out HB.out) | (with_reducible refine Kd.C_alloc ?_ _) | (with_reducible refine Kd.C_drewN ?_ _) | (with_reducible refine Kd.C_drew ?_)));(case side2 => exact HC0.out);rintro e w64 ⟨v126,rfl,ho0,hb⟩;refine ⟨_,rfl,?_⟩;have n0_ := Aside0.mk (Kd.R_elder' (by (with_reducible repeat (first | apply Kd.R_alloc | apply Kd.R_drewN | apply Kd.R_drew));exact HO_10.out) (Kd.R_base ho0) hb);have n1_ := Aside0.mk (Kd.R_below (by (with_reducible repeat (first | apply Kd.R_alloc | apply Kd.R_drewN | apply Kd.R_drew));exact HO_11.out) hb);have n2_ := Aside0.mk (Kd.R_below (by (with_reducible repeat (first | apply Kd.R_alloc | apply Kd.R_drewN | apply Kd.R_drew));exact HO_12.out) hb);have n3_ := Aside0.mk (Kd.R_lower (Kd.R_new' ho0 (Kd.R_lt (by (with_reducible repeat (first | apply Kd.R_alloc | apply Kd.R_drewN | apply Kd.R_drew));exact HO_10.out))) (below_size (by repeat (first | (with_reducible first | exact HB.out | apply below_alloc | apply pw_below_drewN | apply below_drew1) | exact HB.out))));have n4_ := Aside0.mk (below_step (by repeat (first | (with_reducible first | exact HB.out | apply below_alloc | apply pw_below_drewN | apply below_drew1) | exact HB.out)) hb);clear HO_10;clear HO_11;clear HO_12;clear HB;have HO_10 := n0_;have HO_11 := n1_;have HO_12 := n2_;have HO127 := n3_;have HB := n4_;clear n0_ n1_ n2_ n3_ n4_;(try clear hb);(try clear hb2);(try clear hk);(try clear hi);(try clear ho0);obtain ⟨Ao65,co65,eo65⟩ := Kd.R_slice HO127.out;subst eo65) | ((with_reducible refine gate_callee (f := 19) rfl ?_);refine goesL_ (some 62) rfl rfl Try.func19 (by kernel_rfl) rfl #[.slice Ao28 t114.length co28,.slice Ao65 t125.length co65] rfl (by (try simp only [List.map_toArray,List.map_cons,List.map_nil]);first | done | rfl | (simp only [List.length_drop,List.length_take];rfl)) ?_;(with_reducible refine (laws_eqShipS.calls kj16 _ _ t114 _ _ t125 false _ ?side1 ?side2 ?side3 ?side4 A35.out).mono ?_);(case side1 => repeat (first | exact (Kd.R_reads' HO_10.out).2.2 | (with_reducible refine Kd.C_alloc ?_ _) | (with_reducible refine Kd.C_drewN ?_ _) | (with_reducible refine Kd.C_drew ?_)));(case side2 => exact (Kd.R_reads' HO_10.out).2.1);(case side3 => repeat (first | exact (Kd.R_reads' HO127.out).2.2 | (with_reducible refine Kd.C_alloc ?_ _) | (with_reducible refine Kd.C_drewN ?_ _) | (with_reducible refine Kd.C_drew ?_)));(case side4 => exact (Kd.R_reads' HO127.out).2.1);rintro e w66 ⟨rfl,hb⟩;refine ⟨_,rfl,?_⟩;have n0_ := Aside0.mk (Kd.R_below (by (with_reducible repeat (first | apply Kd.R_alloc | apply Kd.R_drewN | apply Kd.R_drew));exact HO_10.out) hb);have n1_ := Aside0.mk (Kd.R_below (by (with_reducible repeat (first | apply Kd.R_alloc | apply Kd.R_drewN | apply Kd.R_drew));exact HO_11.out) hb);have n2_ := Aside0.mk (Kd.R_below (by (with_reducible repeat (first | apply Kd.R_alloc | apply Kd.R_drewN | apply Kd.R_drew));exact HO_12.out) hb);have n3_ := Aside0.mk (Kd.R_below (by (with_reducible repeat (first | apply Kd.R_alloc | apply Kd.R_drewN | apply Kd.R_drew));exact HO127.out) hb);have n4_ := Aside0.mk (below_step (by repeat (first | (with_reducible first | exact HB.out | apply below_alloc | apply pw_below_drewN | apply below_drew1) | exact HB.out)) hb);clear HO_10;clear HO_11;clear HO_12;clear HO127;clear HB;have HO_10 := n0_;have HO_11 := n1_;have HO_12 := n2_;have HO127 := n3_;have HB := n4_;clear n0_ n1_ n2_ n3_ n4_;(try clear hb);(try clear hb2);(try clear hk);(try clear hi)))
        go_ret
        exact ⟨by first | rfl | (simp [errW_none,errW_some,IntKind.wrap_i64,wrap64];done) | (simp [errW_none,errW_some] <;> rfl) | (simp [*,errW_none,errW_some] <;> rfl),by repeat (first | (with_reducible first | exact HB.out | apply below_alloc | apply pw_below_drewN | apply below_drew1) | exact HB.out)⟩
end Go.Proofs.Ytheenidapjkboaa.G
end

section
namespace Go.Proofs.Ytheenidapjkboaa.G
open Go.RowKit Go.Proofs.YtheenidapjkboaaW.PrintWords Go.Proofs.YtheenidapjkboaaW.PrintLast Go.Proofs.YtheenidapjkboaaW.PrintMore
attribute [local go_sem] max2_int min2_int max_two min_two max_three min_three max_four min_four
set_option linter.unusedVariables false
set_option linter.unusedSimpArgs false
open Go.ChangeShapes Go.WideShapes Go.Deep in
structure Opens {α : Type} (P : Program) (t : TypeId) (d : Kd α) (Wf : α → Prop) : Prop where
  sz : P.cellsOf t = d.sz
  op : ∀ {H : Type} {enc : TypeId × Value → H} {w : World} {base : Nat} {spare : Nat → Bool} {held : Bool} {fuel : Nat} {cs : List Value} {x : DataW H × List MemPlace}, DataW.trod enc P w base spare held fuel t cs = some x → ∃ a : α, d.K w a cs ∧ Wf a
theorem opens_int {P : Program} {t : TypeId} {k : IntKind} (ht : P.underlying t = some (.int k)) (hC : P.cellsOf t = 1) : Opens P t (Kd.int k) (fun n => (Lit.int k n).wf = true) where
  sz := hC
  op := fun h => by
    obtain ⟨n, rfl, _, hw⟩ := DataW.trod_int ht h
    exact ⟨n, rfl, hw⟩
theorem list_of {α : Type} {Q : Nat → α → Prop} : ∀ n, (∀ i, i < n → ∃ y, Q i y) → ∃ l : List α, l.length = n ∧ ∀ i y, l[i]? = some y → Q i y
  | 0, _ => ⟨[], rfl, fun i y h => by simp at h⟩
  | n + 1, h => by
    obtain ⟨l, hl, hq⟩ := list_of n (fun i hi => h i (by omega))
    obtain ⟨y, hy⟩ := h n (by omega)
    refine ⟨l ++ [y], by simp [hl], fun i z hz => ?_⟩
    rcases Nat.lt_or_ge i l.length with hi | hi
    · rw [List.getElem?_append_left hi] at hz
      exact hq i z hz
    · rw [List.getElem?_append_right hi] at hz
      have : i - l.length = 0 := by
        rcases Nat.eq_zero_or_pos (i - l.length) with h0 | h0
        · exact h0
        · rw [List.getElem?_eq_none (by simp; omega)] at hz
          cases hz
      rw [this] at hz
      have e : y = z := by simpa using hz
      subst e
      have : i = n := by omega
      subst this
      exact hy
theorem opens_slice {α : Type} {P : Program} {t e : TypeId} {d : Kd α} {Wf : α → Prop} (ht : P.underlying t = some (.slice e)) (hC : P.cellsOf t = 1) (he : Opens P e d Wf) : Opens P t (Kd.slice e d) (fun l => l.length ≤ 9223372036854775807 ∧ ∀ x ∈ l, Wf x) where
  sz := hC
  op := fun {H enc w base spare held fuel cs x} h => by
    rcases Go.Deep.open_slice ht h with ⟨rfl, _⟩ | ⟨a, len, cap, m, n, D, Pl, rfl, hb, hl, hm, hmm, _, hi⟩
    · exact ⟨[], ⟨none, 0, rfl, Nat.le_refl _, rfl, by simp, fun h => absurd h (by simp)⟩, by simp, by simp⟩
    · have hlen : len ≤ m := by rw [hmm]; split <;> omega
      obtain ⟨l, hll, hq⟩ := list_of (Q := fun i y => (∃ c, c.length = d.sz ∧ d.K w y c ∧ ∀ j u, c[j]? = some u → w.cell? (a.add (i * d.sz + j)) = some u) ∧ Wf y) len (fun i him => by
        obtain ⟨cs', hc, ht'⟩ := hi i (by omega)
        obtain ⟨y, hK, hW⟩ := he.op ht'
        obtain ⟨_, hcl, hat⟩ := World.cells?_some hc
        refine ⟨y, ⟨cs', d.K_len hK, hK, fun j u hu => ?_⟩, hW⟩
        have hj : j < cs'.length := (List.getElem?_eq_some_iff.1 hu).1
        have h1 := hat j (by rw [he.sz, ← d.K_len hK]; exact hj)
        rw [← he.sz, ← Go.Deep.add_add, h1, hu])
      refine ⟨l, ⟨some a, cap, by rw [hll], by rw [hll]; exact hl, rfl, by rw [hll]; have := hm; unfold maxLen at this; omega, fun _ => ⟨a, rfl, fun j p hj => (hq j p hj).1⟩⟩, by rw [hll]; have := hm; unfold maxLen at this; omega, fun y hy => ?_⟩
      obtain ⟨j, hj, rfl⟩ := List.mem_iff_getElem.1 hy
      exact (hq j _ (List.getElem?_eq_getElem hj)).2
def offs (P : Program) : List TypeId → Nat → Nat
  | [], _ => 0
  | _ :: _, 0 => 0
  | t :: ts, i + 1 => P.cellsOf t + offs P ts i
def OpensF {α : Type} (P : Program) (ts : List TypeId) (d : Kd α) (Wf : α → Prop) : Prop :=
  ∀ {H : Type} {enc : TypeId × Value → H} {w : World} {base : Nat} {spare : Nat → Bool} {held : Bool} {n : Nat} {cs : List Value}, cs.length = d.sz → (∀ i t, ts[i]? = some t → ∃ x, DataW.trod enc P w base spare held n t ((cs.drop (offs P ts i)).take (P.cellsOf t)) = some x) → ∃ a : α, d.K w a cs ∧ Wf a
theorem opensF_one {α : Type} {P : Program} {t : TypeId} {d : Kd α} {Wf : α → Prop} (h : Opens P t d Wf) : OpensF P [t] d Wf := fun {H enc w base spare held n cs} hl hf => by
  obtain ⟨x, hx⟩ := hf 0 t rfl
  simp only [offs, List.drop_zero] at hx
  rw [List.take_of_length_le (by rw [hl, h.sz]; exact Nat.le_refl _)] at hx
  exact h.op hx
theorem opensF_cons {α β : Type} {P : Program} {t : TypeId} {ts : List TypeId} {d : Kd α} {d' : Kd β} {Wf : α → Prop} {Wf' : β → Prop} (h : Opens P t d Wf) (h' : OpensF P ts d' Wf') : OpensF P (t :: ts) (Kd.pair d d') (fun x => Wf x.1 ∧ Wf' x.2) := fun {H enc w base spare held n cs} hl hf => by
  have hl' : cs.length = d.sz + d'.sz := hl
  obtain ⟨x, hx⟩ := hf 0 t rfl
  simp only [offs, List.drop_zero] at hx
  obtain ⟨a, hK, hW⟩ := h.op hx
  obtain ⟨b, hK', hW'⟩ := h' (enc := enc) (w := w) (base := base) (spare := spare) (held := held) (n := n) (cs := cs.drop d.sz) (by rw [List.length_drop, hl']; omega) (fun i t' ht' => by
    obtain ⟨y, hy⟩ := hf (i + 1) t' (by simpa using ht')
    refine ⟨y, ?_⟩
    rw [List.drop_drop]
    simpa only [offs, h.sz] using hy)
  refine ⟨(a, b), ⟨_, _, (List.take_append_drop d.sz cs).symm, ?_, hK'⟩, hW, hW'⟩
  rw [← h.sz]
  exact hK
theorem opens_struct {α β : Type} {P : Program} {t : TypeId} {fs : Array Field} {d : Kd α} {Wf : α → Prop} (f : β → α) (g : α → β) (hfg : ∀ a, f (g a) = a) (ht : P.underlying t = some (.struct fs)) (hC : P.cellsOf t = d.sz)
    (ho : ((List.range fs.size).all fun i => decide ((fs[i]?.map Field.offset) = some (offs P (fs.toList.map Field.type) i))) = true) (h : OpensF P (fs.toList.map Field.type) d Wf) : Opens P t (Kd.iso d f) (fun x => Wf (f x)) where
  sz := hC
  op := fun {H enc w base spare held fuel cs x} hx => by
    obtain ⟨xs, n, _, _, hlen, hxl, hf⟩ := DataW.trod_struct ht hx
    obtain ⟨a, hK, hW⟩ := h (enc := enc) (w := w) (base := base) (spare := spare) (held := held) (n := n) (cs := cs) (by rw [hlen, hC]) (fun i t' ht' => by
      have hi : i < fs.size := by
        have := (List.getElem?_eq_some_iff.1 ht').1
        simpa using this
      have e : fs[i]? = some fs[i] := Array.getElem?_eq_getElem hi
      have et : fs[i].type = t' := by
        rw [List.getElem?_map] at ht'
        have : fs.toList[i]? = some fs[i] := by simp [hi]
        rw [this] at ht'
        simpa using ht'
      have eo := of_decide_eq_true (List.all_eq_true.1 ho i (List.mem_range.2 hi))
      rw [e] at eo
      have eo' : fs[i].offset = offs P (fs.toList.map Field.type) i := by simpa using eo
      have h1 := hf i fs[i] e
      rw [et, eo'] at h1
      exact ⟨_, h1.trans (List.getElem?_eq_getElem (show i < xs.length by omega))⟩)
    exact ⟨g a, by show d.K w (f (g a)) cs; rw [hfg]; exact hK, by show Wf (f (g a)); rw [hfg]; exact hW⟩
theorem op104 : Opens Try.prog 104 (Kd.int .i8) (fun x : Int => (Lit.int .i8 x).wf = true) := opens_int (k := .i8) Try.underlying104 (by kernel_rfl)
theorem op111 : Opens Try.prog 111 k111 (fun x : S111 => (Lit.int .i8 x.f0).wf = true ∧ (Lit.int .i8 x.f1).wf = true ∧ (Lit.int .i8 x.f2).wf = true) := opens_struct (fun x : S111 => (x.f0, x.f1, x.f2)) (fun a => ⟨a.1, a.2.1, a.2.2⟩) (fun _ => rfl) Try.underlying111 (by kernel_rfl) (by kernel_rfl) (opensF_cons op104 (opensF_cons op104 (opensF_one op104)))
theorem op22 : Opens Try.prog 22 (Kd.slice 111 k111) (fun x : List (S111) => (x.length ≤ 9223372036854775807 ∧ ∀ x_ ∈ x, (Lit.int .i8 x_.f0).wf = true ∧ (Lit.int .i8 x_.f1).wf = true ∧ (Lit.int .i8 x_.f2).wf = true)) := opens_slice Try.underlying22 (by kernel_rfl) op111
theorem op23 : Opens Try.prog 23 (Kd.slice 104 (Kd.int .i8)) (fun x : List Int => (x.length ≤ 9223372036854775807 ∧ ∀ x_ ∈ x, (Lit.int .i8 x_).wf = true)) := opens_slice Try.underlying23 (by kernel_rfl) op104
theorem op146 : Opens Try.prog 146 k146 (fun x : S146 => (Lit.int .i8 x.f0).wf = true ∧ (Lit.int .i8 x.f1).wf = true ∧ (Lit.int .i8 x.f2).wf = true) := opens_struct (fun x : S146 => (x.f0, x.f1, x.f2)) (fun a => ⟨a.1, a.2.1, a.2.2⟩) (fun _ => rfl) Try.underlying146 (by kernel_rfl) (by kernel_rfl) (opensF_cons op104 (opensF_cons op104 (opensF_one op104)))
theorem op60 : Opens Try.prog 60 (Kd.slice 146 k146) (fun x : List (S146) => (x.length ≤ 9223372036854775807 ∧ ∀ x_ ∈ x, (Lit.int .i8 x_.f0).wf = true ∧ (Lit.int .i8 x_.f1).wf = true ∧ (Lit.int .i8 x_.f2).wf = true)) := opens_slice Try.underlying60 (by kernel_rfl) op146
end Go.Proofs.Ytheenidapjkboaa.G
end

section
namespace Go.Proofs.Ytheenidapjkboaa.G.Pure
open Go.RowKit Go.Proofs.Ytheenidapjkboaa.G Go.Proofs.YtheenidapjkboaaW.PrintWords Go.Proofs.YtheenidapjkboaaW.PrintLast Go.Proofs.YtheenidapjkboaaW.PrintMore
set_option linter.unusedVariables false
set_option linter.unusedSimpArgs false
theorem w64 {n : Int} (h0 : -9223372036854775808 ≤ n) (h1 : n ≤ 9223372036854775807) : wrap64 n = n := by
 unfold wrap64
 omega
theorem i8b {n : Int} (h : (Lit.int .i8 n).wf = true) : -128 ≤ n ∧ n ≤ 127 := by
 simp [Lit.wf,IntKind.min,IntKind.max,IntKind.signed,IntKind.bits] at h
 omega
theorem i8w {n : Int} (h0 : -128 ≤ n) (h1 : n ≤ 127) : IntKind.i8.wrap n = n := by
 simp only [IntKind.wrap,IntKind.signed,IntKind.bits]
 simp
 omega
theorem loop_inv {σ γ : Type} (L : Nat → σ → Option γ) (n : Nat) (I : Nat → σ → Prop) (R : γ → Prop)
  (hs : ∀ k i s,i < n → I i s → (∃ s',I (i + 1) s' ∧ L (k + 1) s = L k s') ∨ (∃ r,R r ∧ L (k + 1) s = some r))
  (he : ∀ k s,I n s → ∃ r,R r ∧ L (k + 1) s = some r) : ∀ k s,I 0 s → n < k → ∃ r,R r ∧ L k s = some r := by
 have go : ∀ d i k s,i + d = n → I i s → d < k → ∃ r,R r ∧ L k s = some r := by
  intro d
  induction d with
  | zero =>
   intro i k s hi hI hk
   obtain ⟨k,rfl⟩ : ∃ m,k = m + 1 := ⟨k - 1,by omega⟩
   obtain rfl : i = n := by omega
   exact he k s hI
  | succ d ih =>
   intro i k s hi hI hk
   obtain ⟨k,rfl⟩ : ∃ m,k = m + 1 := ⟨k - 1,by omega⟩
   rcases hs k i s (by omega) hI with ⟨s',hI',h⟩ | h
   ·rw [h]
    exact ih (i + 1) k s' (by omega) hI' (by omega)
   ·exact h
 intro k s hI hk
 exact go n 0 k s (by omega) hI hk
theorem take_set_succ {α : Type} {l : List α} {i : Nat} (h : i < l.length) (v : α) : (l.set i v).take (i + 1) = l.take i ++ [v] := by
 rw [List.take_succ_eq_append_getElem (by simpa using h)]
 simp [List.take_set_of_le]
theorem rd_nat {l : List Int} {i : Nat} (h : i < l.length) : rd l (i : Int) = l[i] := by
 simp [rd,List.getD_eq_getElem?_getD,List.getElem?_eq_getElem h]
end Go.Proofs.Ytheenidapjkboaa.G.Pure
end

section
namespace Go.Proofs.Ytheenidapjkboaa.G.Pure
open Go.RowKit Go.Proofs.Ytheenidapjkboaa.G Go.Proofs.YtheenidapjkboaaW.PrintWords Go.Proofs.YtheenidapjkboaaW.PrintLast Go.Proofs.YtheenidapjkboaaW.PrintMore
set_option linter.unusedVariables false
set_option linter.unusedSimpArgs false
def shipOf (x : S111) : S109 := ⟨x.f0,x.f1,x.f2⟩
theorem szShipS_eq (l : List (S111)) (a : Int) (h0 : 0 ≤ a) (h1 : a ≤ 1048576) (hl : l.length ≤ 9223372036854775807) : laws_szShipS.f l a = some (if a - l.length < 0 then -1 else a - l.length) := by
 unfold laws_szShipS.f
 rw [w64 (by omega) (by omega)]
 split <;> rfl
theorem rd_laws_Ship {l : List (S111)} {i : Nat} (h : i < l.length) : rd_T111 l (i : Int) = l[i] := by
 simp [rd_T111,List.getD_eq_getElem?_getD,List.getElem?_eq_getElem h]
theorem rd_impl_Ship {l : List (S109)} {i : Nat} (h : i < l.length) : rd_T109 l (i : Int) = l[i] := by
 simp [rd_T109,List.getD_eq_getElem?_getD,List.getElem?_eq_getElem h]
theorem toShipS_eq (k : Nat) (l : List (S111)) (hl : l.length ≤ 1048576) (hk : l.length < k) : laws_toShipS.f k l = some (l.map shipOf) := by
 unfold laws_toShipS.f
 rw [if_pos (by omega),if_pos (by omega)]
 obtain ⟨r,hr,h⟩ := loop_inv (fun k (s : List (S109) × Int) => laws_toShipS.l0 k l s.1 s.2) l.length (fun i s => s.2 = (i : Int) ∧ s.1.length = l.length ∧ s.1.take i = (l.map shipOf).take i) (fun r => r = l.map shipOf)
  (fun k i s hi ⟨h1,h2,h3⟩ => by
   obtain ⟨acc,x⟩ := s
   simp only at h1 h2 h3
   subst h1
   refine .inl ⟨(acc.set i (shipOf l[i]),((i + 1 : Nat) : Int)),⟨rfl,by simpa using h2,?_⟩,?_⟩
   ·rw [take_set_succ (by omega),h3,List.take_succ_eq_append_getElem (by simpa using hi)]
    simp
   ·simp only [laws_toShipS.l0]
    rw [if_pos (by omega),if_pos (by omega),rd_laws_Ship hi]
    simp only [laws_toShip.f,Option.bind_some]
    rw [if_pos (by omega),w64 (by omega) (by omega)]
    rfl)
  (fun k s ⟨h1,h2,h3⟩ => by
   obtain ⟨acc,x⟩ := s
   simp only at h1 h2 h3
   subst h1
   refine ⟨acc,?_,?_⟩
   ·rw [List.take_of_length_le (by omega),List.take_of_length_le (by simp)] at h3
    exact h3
   ·simp only [laws_toShipS.l0]
    rw [if_neg (by omega)]) k (List.replicate l.length z109,0) ⟨rfl,by simp,by simp⟩ hk
 subst hr
 simpa using h
theorem eqShip_self (a : S109) : laws_eqShip.f a.f0 a.f1 a.f2 a.f0 a.f1 a.f2 = some true := by
 simp [laws_eqShip.f]
theorem eqShipS_self (k : Nat) (a : List (S109)) (hl : a.length ≤ 1048576) (hk : a.length < k) : laws_eqShipS.f k a a = some true := by
 unfold laws_eqShipS.f
 rw [if_pos rfl]
 obtain ⟨r,hr,h⟩ := loop_inv (fun k (s : Int) => laws_eqShipS.l0 k a a s) a.length (fun i s => s = (i : Int)) (fun r => r = true)
  (fun k i s hi h1 => by
   subst h1
   refine .inl ⟨((i + 1 : Nat) : Int),rfl,?_⟩
   simp only [laws_eqShipS.l0]
   rw [if_pos (by omega),if_pos (by omega),if_pos (by omega),eqShip_self]
   simp only [Option.bind_some,if_true]
   rw [w64 (by omega) (by omega)]
   rfl)
  (fun k s h1 => by
   subst h1
   refine ⟨true,rfl,?_⟩
   simp only [laws_eqShipS.l0]
   rw [if_neg (by omega)]) k 0 rfl hk
 subst hr
 exact h
end Go.Proofs.Ytheenidapjkboaa.G.Pure
end

section
namespace Go.Proofs.Ytheenidapjkboaa.G.Pure
open Go.RowKit Go.Proofs.Ytheenidapjkboaa.G Go.Proofs.YtheenidapjkboaaW.PrintWords Go.Proofs.YtheenidapjkboaaW.PrintLast Go.Proofs.YtheenidapjkboaaW.PrintMore
set_option linter.unusedVariables false
set_option linter.unusedSimpArgs false
abbrev Ft := S144
def faultOf (x : S146) : Ft := ⟨x.f0,x.f1,x.f2⟩
theorem szFaultS_eq (l : List (S146)) (a : Int) (h0 : 0 ≤ a) (h1 : a ≤ 1048576) (hl : l.length ≤ 9223372036854775807) : laws_szFaultS.f l a = some (if a - l.length < 0 then -1 else a - l.length) := by
 unfold laws_szFaultS.f
 rw [w64 (by omega) (by omega)]
 split <;> rfl
theorem rd_laws_Fault {l : List (S146)} {i : Nat} (h : i < l.length) : rd_T146 l (i : Int) = l[i] := by
 simp [rd_T146,List.getD_eq_getElem?_getD,List.getElem?_eq_getElem h]
theorem rd_impl_Fault {l : List Ft} {i : Nat} (h : i < l.length) : rd_T144 l (i : Int) = l[i] := by
 simp [rd_T144,List.getD_eq_getElem?_getD,List.getElem?_eq_getElem h]
theorem toFaultS_eq (k : Nat) (l : List (S146)) (hl : l.length ≤ 1048576) (hk : l.length < k) : laws_toFaultS.f k l = some (l.map faultOf) := by
 unfold laws_toFaultS.f
 rw [if_pos (by omega),if_pos (by omega)]
 obtain ⟨r,hr,h⟩ := loop_inv (fun k (s : List Ft × Int) => laws_toFaultS.l0 k l s.1 s.2) l.length (fun i s => s.2 = (i : Int) ∧ s.1.length = l.length ∧ s.1.take i = (l.map faultOf).take i) (fun r => r = l.map faultOf)
  (fun k i s hi ⟨h1,h2,h3⟩ => by
   obtain ⟨acc,x⟩ := s
   simp only at h1 h2 h3
   subst h1
   refine .inl ⟨(acc.set i (faultOf l[i]),((i + 1 : Nat) : Int)),⟨rfl,by simpa using h2,?_⟩,?_⟩
   ·rw [take_set_succ (by omega),h3,List.take_succ_eq_append_getElem (by simpa using hi)]
    simp
   ·simp only [laws_toFaultS.l0]
    rw [if_pos (by omega),if_pos (by omega),rd_laws_Fault hi]
    simp only [laws_toFault.f,Option.bind_some]
    rw [if_pos (by omega),w64 (by omega) (by omega)]
    rfl)
  (fun k s ⟨h1,h2,h3⟩ => by
   obtain ⟨acc,x⟩ := s
   simp only at h1 h2 h3
   subst h1
   refine ⟨acc,?_,?_⟩
   ·rw [List.take_of_length_le (by omega),List.take_of_length_le (by simp)] at h3
    exact h3
   ·simp only [laws_toFaultS.l0]
    rw [if_neg (by omega)]) k (List.replicate l.length z144,0) ⟨rfl,by simp,by simp⟩ hk
 subst hr
 simpa using h
theorem eqFault_self (a : Ft) : laws_eqFault.f a.f0 a.f1 a.f2 a.f0 a.f1 a.f2 = some true := by
 simp [laws_eqFault.f]
theorem eqFaultS_self (k : Nat) (a : List Ft) (hl : a.length ≤ 1048576) (hk : a.length < k) : laws_eqFaultS.f k a a = some true := by
 unfold laws_eqFaultS.f
 rw [if_pos rfl]
 obtain ⟨r,hr,h⟩ := loop_inv (fun k (s : Int) => laws_eqFaultS.l0 k a a s) a.length (fun i s => s = (i : Int)) (fun r => r = true)
  (fun k i s hi h1 => by
   subst h1
   refine .inl ⟨((i + 1 : Nat) : Int),rfl,?_⟩
   simp only [laws_eqFaultS.l0]
   rw [if_pos (by omega),if_pos (by omega),if_pos (by omega),eqFault_self]
   simp only [Option.bind_some,if_true]
   rw [w64 (by omega) (by omega)]
   rfl)
  (fun k s h1 => by
   subst h1
   refine ⟨true,rfl,?_⟩
   simp only [laws_eqFaultS.l0]
   rw [if_neg (by omega)]) k 0 rfl hk
 subst hr
 exact h
theorem wf_faults {l : List (S146)} (h : ∀ x ∈ l,(Lit.int .i8 x.f0).wf = true ∧ (Lit.int .i8 x.f1).wf = true ∧ (Lit.int .i8 x.f2).wf = true) : ∀ x ∈ l.map faultOf,(Lit.int .i8 x.f0).wf = true ∧ (Lit.int .i8 x.f1).wf = true ∧ (Lit.int .i8 x.f2).wf = true := by
 intro x hx
 obtain ⟨y,hy,rfl⟩ := List.mem_map.1 hx
 exact h y hy
end Go.Proofs.Ytheenidapjkboaa.G.Pure
end

section
namespace Go.Proofs.Ytheenidapjkboaa.G.Pure
open Go.RowKit Go.Proofs.Ytheenidapjkboaa.G Go.Proofs.YtheenidapjkboaaW.PrintWords Go.Proofs.YtheenidapjkboaaW.PrintLast Go.Proofs.YtheenidapjkboaaW.PrintMore
set_option linter.unusedVariables false
set_option linter.unusedSimpArgs false
theorem eq_loop (L : Nat → Int → Option Bool) (a b : List Int) (hlen : a.length = b.length)
  (hs : ∀ k i,i < a.length → L (k + 1) (i : Int) = if rd a (i : Int) = rd b (i : Int) then L k ((i + 1 : Nat) : Int) else some false) (he : ∀ k,L (k + 1) (a.length : Int) = some true) : ∀ k,a.length < k → L k 0 = some (decide (a = b)) := by
 intro k hk
 obtain ⟨r,hr,h⟩ := loop_inv L a.length (fun i s => s = (i : Int) ∧ ∀ j (h : j < a.length),j < i → a[j] = b[j]) (fun r => r = decide (a = b))
  (fun k i s hi ⟨h1,h2⟩ => by
   subst h1
   rw [hs k i hi,rd_nat hi,rd_nat (by omega)]
   by_cases h : a[i] = b[i]
   ·rw [if_pos h]
    refine .inl ⟨((i + 1 : Nat) : Int),⟨rfl,fun j hj hji => ?_⟩,rfl⟩
    rcases Nat.lt_succ_iff_lt_or_eq.1 hji with e | e
    ·exact h2 j hj e
    ·subst e
     exact h
   ·rw [if_neg h]
    refine .inr ⟨false,?_,rfl⟩
    rw [decide_eq_false]
    rintro rfl
    exact h rfl)
  (fun k s ⟨h1,h2⟩ => by
   subst h1
   refine ⟨true,?_,he k⟩
   rw [decide_eq_true]
   exact List.ext_getElem hlen fun j h1 h3 => h2 j h1 h1) k 0 ⟨rfl,fun j _ h => absurd h (Nat.not_lt_zero _)⟩ hk
 subst hr
 exact h
theorem implEqH {k : Nat} {a b : List Int} (ha : a.length ≤ 1048576) (hk : a.length < k) : slices_Equal_Hoist_int8.f k a b = some (decide (a = b)) := by
 unfold slices_Equal_Hoist_int8.f
 by_cases h : a.length = b.length
 ·rw [if_pos (by omega)]
  refine eq_loop (fun k i => slices_Equal_Hoist_int8.l0 k a b (a.length : Int) i) a b h (fun k i hi => ?_) (fun k => ?_) k hk
  ·simp only [slices_Equal_Hoist_int8.l0]
   rw [if_pos (by omega),if_pos (by omega),if_pos (by omega),if_pos (by omega),w64 (by omega) (by omega)]
   rfl
  ·simp only [slices_Equal_Hoist_int8.l0]
   rw [if_neg (by omega)]
 ·rw [if_neg (by omega),decide_eq_false]
  rintro rfl
  exact h rfl
theorem specEqH {k : Nat} {a b : List Int} (ha : a.length ≤ 1048576) (hk : a.length < k) : spec_l02Same.f k a b = some (decide (a = b)) := by
 unfold spec_l02Same.f
 by_cases h : a.length = b.length
 ·rw [if_pos (by omega)]
  refine eq_loop (fun k i => spec_l02Same.l0 k a b i) a b h (fun k i hi => ?_) (fun k => ?_) k hk
  ·simp only [spec_l02Same.l0]
   rw [if_pos (by omega),if_pos (by omega),if_pos (by omega),w64 (by omega) (by omega)]
   rfl
  ·simp only [spec_l02Same.l0]
   rw [if_neg (by omega)]
 ·rw [if_neg (by omega),decide_eq_false]
  rintro rfl
  exact h rfl
theorem eqHoist_self (k : Nat) (a : List Int) (hl : a.length ≤ 1048576) (hk : a.length < k) : laws_eqHoist.f k a a = some true := by
 unfold laws_eqHoist.f
 rw [if_pos rfl]
 have e := eq_loop (fun k i => laws_eqHoist.l0 k a a i) a a rfl (fun k i hi => by
  simp only [laws_eqHoist.l0]
  rw [if_pos (by omega),if_pos (by omega),if_pos (by omega),w64 (by omega) (by omega)]
  rfl) (fun k => by
  simp only [laws_eqHoist.l0]
  rw [if_neg (by omega)]) k hk
 rw [e]
 simp
theorem toHoist_eq (k : Nat) (l : List Int) (hl : l.length ≤ 1048576) (hk : l.length < k) : laws_toHoist.f k l = some l := by
 unfold laws_toHoist.f
 rw [if_pos (by omega),if_pos (by omega)]
 obtain ⟨r,hr,h⟩ := loop_inv (fun k (s : List Int × Int) => laws_toHoist.l0 k l s.1 s.2) l.length (fun i s => s.2 = (i : Int) ∧ s.1.length = l.length ∧ s.1.take i = l.take i) (fun r => r = l)
  (fun k i s hi ⟨h1,h2,h3⟩ => by
   obtain ⟨acc,x⟩ := s
   simp only at h1 h2 h3
   subst h1
   refine .inl ⟨(acc.set i l[i],((i + 1 : Nat) : Int)),⟨rfl,by simpa using h2,?_⟩,?_⟩
   ·rw [take_set_succ (by omega),h3,List.take_succ_eq_append_getElem hi]
   ·simp only [laws_toHoist.l0]
    rw [if_pos (by omega),if_pos (by omega),if_pos (by omega),rd_nat hi,w64 (by omega) (by omega)]
    rfl)
  (fun k s ⟨h1,h2,h3⟩ => by
   obtain ⟨acc,x⟩ := s
   simp only at h1 h2 h3
   subst h1
   refine ⟨acc,?_,?_⟩
   ·rw [List.take_of_length_le (by omega),List.take_of_length_le (by omega)] at h3
    exact h3
   ·simp only [laws_toHoist.l0]
    rw [if_neg (by omega)]) k (List.replicate l.length 0,0) ⟨rfl,by simp,by simp⟩ hk
 subst hr
 simpa using h
abbrev Hs := List (List Int)
theorem rdH {l : Hs} {i : Nat} (h : i < l.length) : rd_L2 l (i : Int) = l[i] := by
 simp [rd_L2,List.getD_eq_getElem?_getD,List.getElem?_eq_getElem h]
end Go.Proofs.Ytheenidapjkboaa.G.Pure
end

section
namespace Go.Proofs.Ytheenidapjkboaa.G.Pure
open Go.RowKit Go.Proofs.Ytheenidapjkboaa.G Go.Proofs.YtheenidapjkboaaW.PrintWords Go.Proofs.YtheenidapjkboaaW.PrintLast Go.Proofs.YtheenidapjkboaaW.PrintMore
set_option linter.unusedVariables false
set_option linter.unusedSimpArgs false
abbrev Sp := S109
abbrev Tm := S106
def scan (pre : List Tm) (a : Nat) : Nat → Int × Int
 | 0 => (-1,-1)
 | n + 1 => match scan pre a n with
  | (f,s) => match pre[a + n]? with
   | some t => if 0 ≤ t.f3 ∧ (f < 0 ∨ t.f3 < s) then (((a + n : Nat) : Int),t.f3) else (f,s)
   | none => (f,s)
def dueL (pre : List Tm) (x : Sp) (read : Int) : Tm :=
 if pre.length = 0 then ⟨-1,0,0,x.f2⟩ else
  match scan pre (pre.length - x.f0.toNat) (pre.length - (pre.length - x.f0.toNat)) with
  | (f,s) => if 0 ≤ f then ⟨f,s,s + read,s + read + x.f2⟩ else ⟨-1,-1,-1,-1⟩
def timesGo (ship more : Int) : List Sp → List Tm → List Tm
 | [],acc => acc
 | x :: xs,acc => timesGo ship more xs (acc ++ [dueL acc x (x.f1 + if (acc.length : Int) = ship then more else 0)])
def timesL (ship more : Int) (l : List Sp) : List Tm := timesGo ship more l []
structure TimesOK (ts : List Tm) : Prop where
 first : ∀ t,ts[0]? = some t → t.f0 = -1 ∧ t.f1 = 0 ∧ t.f2 = 0 ∧ 0 ≤ t.f3
 bound : ∀ (i : Nat) t,ts[i]? = some t → t.f3 ≤ 200 * ((i : Int) + 1) ∧ t.f2 ≤ t.f3 ∧ t.f1 ≤ t.f2
 later : ∀ (i : Nat) t,ts[i]? = some t → 0 < i → (t = ⟨-1,-1,-1,-1⟩) ∨ (0 ≤ t.f0 ∧ t.f0 < (i : Int) ∧ 0 ≤ t.f1 ∧ ∃ u,ts[t.f0.toNat]? = some u ∧ u.f3 = t.f1)
theorem TimesOK.nil : TimesOK [] := ⟨fun t h => by simp at h,fun i t h => by simp at h,fun i t h => by simp at h⟩
theorem scan_spec (pre : List Tm) (hok : TimesOK pre) (a n : Nat) (h : a + n ≤ pre.length) :
  (scan pre a n = (-1,-1) ∨ (0 ≤ (scan pre a n).1 ∧ (scan pre a n).1 < ((a + n : Nat) : Int) ∧ 0 ≤ (scan pre a n).2 ∧ (scan pre a n).2 ≤ 200 * ((a + n : Nat) : Int) ∧ ∃ u,pre[(scan pre a n).1.toNat]? = some u ∧ u.f3 = (scan pre a n).2)) := by
 induction n with
 | zero => exact .inl rfl
 | succ n ih =>
  have hi : a + n < pre.length := by omega
  have e : pre[a + n]? = some pre[a + n] := List.getElem?_eq_getElem hi
  have hb := hok.bound _ _ e
  obtain ih := ih (by omega)
  rcases hs : scan pre a n with ⟨f,s⟩
  rw [hs] at ih
  simp only [scan,hs,e]
  split
  ·right
   exact ⟨by simp only;omega,by simp only;omega,by simp only;omega,by simp only;omega,pre[a + n],by show pre[((a + n : Nat) : Int).toNat]? = _;rw [Int.toNat_natCast];exact e,rfl⟩
  ·rcases ih with ih | ih
   ·exact .inl ih
   ·right
    exact ⟨ih.1,by omega,ih.2.2.1,by omega,ih.2.2.2.2⟩
def shipIn (x : Sp) : Prop := 0 ≤ x.f0 ∧ x.f0 ≤ 6 ∧ 0 ≤ x.f1 ∧ x.f1 ≤ 120 ∧ 0 ≤ x.f2 ∧ x.f2 ≤ 60
theorem due_ok {pre : List Tm} (hok : TimesOK pre) {x : Sp} {read : Int} (h2 : 0 ≤ x.f2 ∧ x.f2 ≤ 60) (hr : 0 ≤ read ∧ read ≤ 120) : TimesOK (pre ++ [dueL pre x read]) := by
 have hs := scan_spec pre hok (pre.length - x.f0.toNat) (pre.length - (pre.length - x.f0.toNat)) (by omega)
 rw [show pre.length - x.f0.toNat + (pre.length - (pre.length - x.f0.toNat)) = pre.length by omega] at hs
 unfold dueL
 rcases hsc : scan pre (pre.length - x.f0.toNat) (pre.length - (pre.length - x.f0.toNat)) with ⟨f,s⟩
 rw [hsc] at hs
 simp only at hs
 refine ⟨fun t ht => ?_,fun i t ht => ?_,fun i t ht hi => ?_⟩
 ·rcases Nat.eq_zero_or_pos pre.length with h0 | h0
  ·rw [List.getElem?_append_right (by omega),if_pos h0] at ht
   simp [h0] at ht
   subst ht
   exact ⟨rfl,rfl,rfl,h2.1⟩
  ·rw [List.getElem?_append_left h0] at ht
   exact hok.first t ht
 ·rcases Nat.lt_or_ge i pre.length with hi | hi
  ·rw [List.getElem?_append_left hi] at ht
   exact hok.bound i t ht
  ·rw [List.getElem?_append_right hi] at ht
   have h0 : i - pre.length = 0 := by
    rcases Nat.eq_zero_or_pos (i - pre.length) with h | h
    ·exact h
    ·rw [List.getElem?_eq_none (by simp;omega)] at ht
     cases ht
   rw [h0] at ht
   simp only [List.getElem?_cons_zero,Option.some.injEq] at ht
   split at ht
   ·subst ht
    simp only
    omega
   ·split at ht
    ·subst ht
     rcases hs with hs | hs
     ·simp only [Prod.mk.injEq] at hs
      omega
     ·simp only
      omega
    ·subst ht
     simp only
     omega
 ·rcases Nat.lt_or_ge i pre.length with hl | hl
  ·rw [List.getElem?_append_left hl] at ht
   rcases hok.later i t ht hi with h | ⟨h1,h2,h3,u,hu,h4⟩
   ·exact .inl h
   ·refine .inr ⟨h1,h2,h3,u,?_,h4⟩
    rw [List.getElem?_append_left (by omega)]
    exact hu
  ·rw [List.getElem?_append_right hl] at ht
   have h0 : i - pre.length = 0 := by
    rcases Nat.eq_zero_or_pos (i - pre.length) with h | h
    ·exact h
    ·rw [List.getElem?_eq_none (by simp;omega)] at ht
     cases ht
   rw [h0] at ht
   simp only [List.getElem?_cons_zero,Option.some.injEq] at ht
   rw [if_neg (by omega)] at ht
   split at ht
   ·rcases hs with hs | ⟨h1,h2,h3,h4,u,hu,h5⟩
    ·simp only [Prod.mk.injEq] at hs
     omega
    ·subst ht
     refine .inr ⟨h1,by simp only;omega,h3,u,?_,h5⟩
     simp only
     rw [List.getElem?_append_left (by omega)]
     exact hu
   ·exact .inl ht.symm
theorem timesGo_len (ship more : Int) : ∀ (l : List Sp) (acc : List Tm),(timesGo ship more l acc).length = acc.length + l.length
 | [],acc => by simp [timesGo]
 | x :: xs,acc => by
  simp only [timesGo]
  rw [timesGo_len ship more xs]
  simp
  omega
theorem timesL_len (ship more : Int) (l : List Sp) : (timesL ship more l).length = l.length := by
 simp [timesL,timesGo_len]
theorem timesGo_ok (ship more : Int) : ∀ (l : List Sp) (acc : List Tm),TimesOK acc → (∀ x ∈ l,0 ≤ x.f2 ∧ x.f2 ≤ 60) → (∀ i x,l[i]? = some x → 0 ≤ x.f1 + (if ((acc.length + i : Nat) : Int) = ship then more else 0) ∧ x.f1 + (if ((acc.length + i : Nat) : Int) = ship then more else 0) ≤ 120) → TimesOK (timesGo ship more l acc)
 | [],acc,h,_,_ => h
 | x :: xs,acc,h,h2,hr => by
  simp only [timesGo]
  have h0 := hr 0 x rfl
  refine timesGo_ok ship more xs _ (due_ok h (h2 x (by simp)) (by simpa using h0)) (fun y hy => h2 y (by simp [hy])) (fun i y hy => ?_)
  have := hr (i + 1) y (by simpa using hy)
  simp only [List.length_append,List.length_singleton]
  rw [show acc.length + 1 + i = acc.length + (i + 1) by omega]
  exact this
end Go.Proofs.Ytheenidapjkboaa.G.Pure
end

section
namespace Go.Proofs.Ytheenidapjkboaa.G.Pure
open Go.RowKit Go.Proofs.Ytheenidapjkboaa.G Go.Proofs.YtheenidapjkboaaW.PrintWords Go.Proofs.YtheenidapjkboaaW.PrintLast Go.Proofs.YtheenidapjkboaaW.PrintMore
set_option linter.unusedVariables false
set_option linter.unusedSimpArgs false
def wfShip (x : Sp) : Prop := (Lit.int .i8 x.f0).wf = true ∧ (Lit.int .i8 x.f1).wf = true ∧ (Lit.int .i8 x.f2).wf = true
def validB (l : List Sp) : Bool := decide (1 ≤ (l.length : Int)) && decide ((l.length : Int) ≤ 20) && !l.any shipBad
theorem implValid_eq (l : List Sp) : impl_ValidLine.f l = some (validB l) := rfl
theorem shipBad_wf {x : Sp} (h : wfShip x) : shipBad x = !(decide (0 ≤ x.f0) && decide (x.f0 ≤ 6) && (decide (0 ≤ x.f1) && decide (x.f1 ≤ 60)) && (decide (0 ≤ x.f2) && decide (x.f2 ≤ 60))) := by
 obtain ⟨h0,h1,h2⟩ := h
 have b0 := i8b h0
 have b1 := i8b h1
 have b2 := i8b h2
 unfold shipBad
 rw [w64 (n := x.f0) (by omega) (by omega),w64 (n := x.f1) (by omega) (by omega),w64 (n := x.f2) (by omega) (by omega)]
structure ValidL (l : List Sp) : Prop where
 pos : 1 ≤ l.length
 most : l.length ≤ 20
 ships : ∀ x ∈ l,0 ≤ x.f0 ∧ x.f0 ≤ 6 ∧ 0 ≤ x.f1 ∧ x.f1 ≤ 60 ∧ 0 ≤ x.f2 ∧ x.f2 ≤ 60
theorem ValidL.in_ {l : List Sp} (h : ValidL l) : ∀ x ∈ l,shipIn x := fun x hx => by
 have := h.ships x hx
 unfold shipIn
 omega
theorem validB_iff {l : List Sp} (hw : ∀ x ∈ l,wfShip x) : validB l = true ↔ ValidL l := by
 constructor
 ·intro h
  unfold validB at h
  simp only [Bool.and_eq_true,decide_eq_true_eq,Bool.not_eq_true',List.any_eq_false] at h
  obtain ⟨⟨h1,h2⟩,h3⟩ := h
  refine ⟨by omega,by omega,fun x hx => ?_⟩
  have h4 := h3 x hx
  rw [shipBad_wf (hw x hx)] at h4
  simp at h4
  omega
 ·intro h
  unfold validB
  simp only [Bool.and_eq_true,decide_eq_true_eq,Bool.not_eq_true',List.any_eq_false]
  refine ⟨⟨by have := h.pos;omega,by have := h.most;omega⟩,fun x hx => ?_⟩
  rw [shipBad_wf (hw x hx)]
  have := h.ships x hx
  simp
  omega
theorem in_eq (n lo hi : Int) : spec_l00In.f n lo hi = some (decide (lo ≤ n) && decide (n ≤ hi)) := by
 unfold spec_l00In.f
 split
 ·simp [*]
 ·simp [*]
theorem specOk_eq (k : Nat) (l : List Sp) (hw : ∀ x ∈ l,wfShip x) (hl : l.length ≤ 1048576) (hk : l.length < k) : spec_l06Ok.f k l = some (validB l) := by
 unfold spec_l06Ok.f validB
 rw [in_eq]
 simp only [Option.bind_some]
 by_cases h0 : (decide (1 ≤ (l.length : Int)) && decide ((l.length : Int) ≤ 20)) = true
 ·rw [if_pos h0,h0,Bool.true_and]
  obtain ⟨r,hr,h⟩ := loop_inv (fun k (s : Int) => spec_l06Ok.l0 k l s) l.length (fun i s => s = (i : Int) ∧ ∀ j (h : j < l.length),j < i → shipBad l[j] = false) (fun r => r = !l.any shipBad)
   (fun k i s hi ⟨h1,h2⟩ => by
    subst h1
    have hb := hw l[i] (List.getElem_mem hi)
    have hbad := shipBad_wf hb
    obtain ⟨b0,b1,b2⟩ := hb
    have b0 := i8b b0
    have b1 := i8b b1
    have b2 := i8b b2
    cases hq : shipBad l[i] with
    | true =>
     refine .inr ⟨false,?_,?_⟩
     ·have : l.any shipBad = true := List.any_eq_true.2 ⟨l[i],List.getElem_mem hi,hq⟩
      rw [this];rfl
     ·simp only [spec_l06Ok.l0]
      rw [if_pos (by omega),if_pos (by omega),rd_impl_Ship hi,in_eq,in_eq,in_eq]
      rw [w64 (n := (l[i]).f0) (by omega) (by omega),w64 (n := (l[i]).f1) (by omega) (by omega),w64 (n := (l[i]).f2) (by omega) (by omega)]
      rw [hq] at hbad
      simp only [Option.bind_some]
      generalize (decide (0 ≤ (l[i]).f0) && decide ((l[i]).f0 ≤ 6)) = c0 at *
      generalize (decide (0 ≤ (l[i]).f1) && decide ((l[i]).f1 ≤ 60)) = c1 at *
      generalize (decide (0 ≤ (l[i]).f2) && decide ((l[i]).f2 ≤ 60)) = c2 at *
      cases c0 <;> cases c1 <;> cases c2 <;> first | (exfalso;revert hbad;decide) | rfl
    | false =>
     refine .inl ⟨((i + 1 : Nat) : Int),⟨rfl,fun j hj hji => ?_⟩,?_⟩
     ·by_cases e : j = i
      ·subst e;exact hq
      ·exact h2 j hj (by omega)
     ·simp only [spec_l06Ok.l0]
      rw [if_pos (by omega),if_pos (by omega),rd_impl_Ship hi,in_eq,in_eq,in_eq]
      rw [w64 (n := (l[i]).f0) (by omega) (by omega),w64 (n := (l[i]).f1) (by omega) (by omega),w64 (n := (l[i]).f2) (by omega) (by omega),w64 (n := (i : Int) + 1) (by omega) (by omega)]
      rw [hq] at hbad
      simp only [Option.bind_some]
      generalize (decide (0 ≤ (l[i]).f0) && decide ((l[i]).f0 ≤ 6)) = c0 at *
      generalize (decide (0 ≤ (l[i]).f1) && decide ((l[i]).f1 ≤ 60)) = c1 at *
      generalize (decide (0 ≤ (l[i]).f2) && decide ((l[i]).f2 ≤ 60)) = c2 at *
      cases c0 <;> cases c1 <;> cases c2 <;> first | (exfalso;revert hbad;decide) | rfl)
   (fun k s ⟨h1,h2⟩ => by
    subst h1
    refine ⟨true,?_,?_⟩
    ·have : l.any shipBad = false := by
      rw [List.any_eq_false]
      intro x hx
      obtain ⟨j,hj,rfl⟩ := List.mem_iff_getElem.1 hx
      simp [h2 j hj hj]
     rw [this];rfl
    ·simp only [spec_l06Ok.l0]
     rw [if_neg (by omega)]) k 0 ⟨rfl,fun j _ h => absurd h (Nat.not_lt_zero _)⟩ hk
  subst hr
  exact h
 ·rw [if_neg h0]
  simp only [Bool.not_eq_true] at h0
  rw [h0,Bool.false_and]
theorem wf_map {l : List (S111)} (h : ∀ x ∈ l,(Lit.int .i8 x.f0).wf = true ∧ (Lit.int .i8 x.f1).wf = true ∧ (Lit.int .i8 x.f2).wf = true) : ∀ x ∈ l.map shipOf,wfShip x := by
 intro x hx
 obtain ⟨y,hy,rfl⟩ := List.mem_map.1 hx
 exact h y hy
end Go.Proofs.Ytheenidapjkboaa.G.Pure
end

section
namespace Go.Proofs.Ytheenidapjkboaa.G.Pure
open Go.RowKit Go.Proofs.Ytheenidapjkboaa.G Go.Proofs.YtheenidapjkboaaW.PrintWords Go.Proofs.YtheenidapjkboaaW.PrintLast Go.Proofs.YtheenidapjkboaaW.PrintMore
set_option linter.unusedVariables false
set_option linter.unusedSimpArgs false
def mstep (n : Int) (s : List Int × Nat) : Option (List Int × Nat) :=
  if n = -10 then (if s.2 = s.1.length then none else some (s.1 ++ [n], s.1.length + 1))
  else if -4 ≤ n ∧ n ≤ -1 then (if s.2 + (-n).toNat - 1 < s.1.length then some (s.1 ++ [rd s.1 ((s.2 + (-n).toNat - 1 : Nat) : Int)], s.2) else none)
  else if 0 ≤ n ∧ n ≤ 39 then some (s.1 ++ [n], s.2) else none
def mto (h : List Int) : Nat → Option (List Int × Nat)
  | 0 => some ([], 0)
  | n + 1 => (mto h n).bind (mstep (rd h (n : Int)))
def MOk (s : List Int × Nat) (n : Nat) : Prop := s.1.length = n ∧ s.2 ≤ n ∧ ∀ j (h : j < s.1.length), s.2 ≤ j → 0 ≤ s.1[j] ∧ s.1[j] ≤ 39
theorem mto_ok {h : List Int} : ∀ n {s : List Int × Nat}, mto h n = some s → MOk s n := by
  intro n
  induction n with
  | zero => intro s hs; cases hs; exact ⟨rfl, Nat.le_refl _, fun j h => by simp at h⟩
  | succ n ih =>
    intro s hs
    rw [mto] at hs
    obtain ⟨s0, h0, h1⟩ := Option.bind_eq_some_iff.1 hs
    obtain ⟨i1, i2, i3⟩ := ih h0
    unfold mstep at h1
    split at h1
    · split at h1
      · cases h1
      · cases h1
        refine ⟨by simp [i1], by simp only; omega, fun j hj h => ?_⟩
        simp only [List.length_append, List.length_singleton] at hj h
        omega
    · split at h1
      · split at h1
        · rename_i hin
          cases h1
          refine ⟨by simp [i1], by simp only; omega, fun j hj h => ?_⟩
          simp only [List.length_append, List.length_singleton] at hj h
          rcases Nat.lt_or_ge j s0.1.length with e | e
          · simp only [List.getElem_append_left e]
            exact i3 j e h
          · obtain rfl : j = s0.1.length := by omega
            simp only [List.getElem_append_right (Nat.le_refl _), Nat.sub_self, List.getElem_cons_zero]
            rw [rd_nat hin]
            exact i3 _ hin (by omega)
        · cases h1
      · split at h1
        · rename_i hk
          cases h1
          refine ⟨by simp [i1], by simp only; omega, fun j hj h => ?_⟩
          simp only [List.length_append, List.length_singleton] at hj h
          rcases Nat.lt_or_ge j s0.1.length with e | e
          · simp only [List.getElem_append_left e]
            exact i3 j e h
          · obtain rfl : j = s0.1.length := by omega
            simp only [List.getElem_append_right (Nat.le_refl _), Nat.sub_self, List.getElem_cons_zero]
            exact hk
        · cases h1
theorem mto_none {h : List Int} {i n : Nat} (hh : mto h i = none) (hi : i ≤ n) : mto h n = none := by
  induction n with
  | zero => obtain rfl : i = 0 := by omega
            exact hh
  | succ n ih =>
    rcases Nat.lt_or_ge i (n + 1) with h1 | h1
    · rw [mto, ih (by omega)]
      rfl
    · obtain rfl : i = n + 1 := by omega
      exact hh
def meanO (h : List Int) : Option (List Int) := if 1 ≤ h.length ∧ h.length ≤ 8 then (match mto h h.length with | some s => if s.2 < s.1.length then some s.1 else none | none => none) else none
theorem kind_eq (n : Int) (h0 : -128 ≤ n) (h1 : n ≤ 127) : impl_isKind.f n = some (decide (0 ≤ n) && decide (n ≤ 39)) := by
  unfold impl_isKind.f impl_within.f
  rw [w64 (by omega) (by omega)]
  by_cases h : 0 ≤ n <;> simp [h]
theorem within8 (n lo hi : Int) : impl_within.f n lo hi = some (decide (lo ≤ n) && decide (n ≤ hi)) := by
  unfold impl_within.f
  split <;> simp [*]
def wfH (h : List Int) : Prop := ∀ x ∈ h, (Lit.int .i8 x).wf = true
theorem wfH_at {h : List Int} (hw : wfH h) {i : Nat} (hi : i < h.length) : -128 ≤ rd h (i : Int) ∧ rd h (i : Int) ≤ 127 := by
  rw [rd_nat hi]
  exact i8b (hw _ (List.getElem_mem hi))
theorem mean_A {h : List Int} (hl : h.length ≤ 1048576) {i : Nat} (hi : i < h.length) {a : List Int} {g : Nat} (o1 : a.length = i) (o2 : g ≤ i) (K1 : Nat) (hn : rd h (i : Int) = -10) :
    impl_Hoist_meaning.l0 (K1 + 1) h a (g : Int) h (h.length : Int) (i : Int) = if g = a.length then some ([], false) else impl_Hoist_meaning.l0 K1 h (a ++ [rd h (i : Int)]) ((a.length + 1 : Nat) : Int) h (h.length : Int) ((i + 1 : Nat) : Int) := by
  rw [show ((i + 1 : Nat) : Int) = (i : Int) + 1 by omega]
  simp only [impl_Hoist_meaning.l0]
  rw [if_pos (by omega), if_pos (by omega), if_pos (by omega), if_pos hn]
  by_cases hg : g = a.length
  · rw [if_pos hg, if_pos (by omega)]
  · rw [if_neg hg, if_neg (by omega), if_pos (by omega)]
    simp only [Option.bind_some]
    rw [w64 (by omega) (by omega), List.length_append, List.length_singleton]
theorem mean_j {K : Nat} {h a : List Int} {g : Nat} {i : Nat} {n : Int} (hl : h.length ≤ 1048576) (hi : i < h.length) (o1 : a.length = i) (x8 : Int) (hn : -128 ≤ n ∧ n ≤ 127) :
    impl_Hoist_meaning.j1 (K + 1) h a (g : Int) n x8 h (h.length : Int) (i : Int) false = if 0 ≤ n ∧ n ≤ 39 then impl_Hoist_meaning.l0 K h (a ++ [n]) (g : Int) h (h.length : Int) ((i + 1 : Nat) : Int) else some ([], false) := by
  rw [show ((i + 1 : Nat) : Int) = (i : Int) + 1 by omega]
  simp only [impl_Hoist_meaning.j1]
  rw [if_neg (by simp), kind_eq _ (by omega) (by omega)]
  simp only [Option.bind_some]
  by_cases hk : 0 ≤ n ∧ n ≤ 39
  · rw [if_pos hk, if_pos (by simp [hk]), if_pos (by omega), w64 (by omega) (by omega)]
  · rw [if_neg hk, if_neg (by simpa using hk)]
theorem mean_jt {K : Nat} {h a : List Int} {g : Nat} {i : Nat} {n : Int} (hl : h.length ≤ 1048576) (hi : i < h.length) (o1 : a.length = i) {p : Nat} (hp : p < a.length) (hk : 0 ≤ a[p] ∧ a[p] ≤ 39) :
    impl_Hoist_meaning.j1 (K + 1) h a (g : Int) n (p : Int) h (h.length : Int) (i : Int) true = impl_Hoist_meaning.l0 K h (a ++ [rd a (p : Int)]) (g : Int) h (h.length : Int) ((i + 1 : Nat) : Int) := by
  rw [show ((i + 1 : Nat) : Int) = (i : Int) + 1 by omega]
  simp only [impl_Hoist_meaning.j1]
  rw [if_pos trivial, if_pos (by omega), if_pos (by omega), rd_nat hp, kind_eq _ (by omega) (by omega)]
  simp only [Option.bind_some]
  rw [if_pos (by simp [hk]), if_pos (by omega), w64 (by omega) (by omega)]
theorem mean_l {K : Nat} {h a : List Int} {g : Nat} {i : Nat} (hl : h.length ≤ 1048576) (hi : i < h.length) (o1 : a.length = i) (o2 : g ≤ i) (hb : -128 ≤ rd h (i : Int) ∧ rd h (i : Int) ≤ 127) (hn : ¬rd h (i : Int) = -10) :
    impl_Hoist_meaning.l0 (K + 1) h a (g : Int) h (h.length : Int) (i : Int) = if -4 ≤ rd h (i : Int) ∧ rd h (i : Int) ≤ -1 then impl_Hoist_meaning.j1 K h a (g : Int) (rd h (i : Int)) ((g : Int) - rd h (i : Int) - 1) h (h.length : Int) (i : Int) (decide ((g : Int) - rd h (i : Int) - 1 < (a.length : Int))) else impl_Hoist_meaning.j1 K h a (g : Int) (rd h (i : Int)) ((g : Int) - rd h (i : Int) - 1) h (h.length : Int) (i : Int) false := by
  generalize hr : impl_Hoist_meaning.j1 K = J
  simp only [impl_Hoist_meaning.l0]
  rw [if_pos (by omega), if_pos (by omega), if_pos (by omega), if_neg hn, within8, w64 (n := rd h (i : Int)) (by omega) (by omega), w64 (n := (g : Int) - rd h (i : Int)) (by omega) (by omega), w64 (n := (g : Int) - rd h (i : Int) - 1) (by omega) (by omega), hr]
  simp only [Option.bind_some]
  by_cases hsub : -4 ≤ rd h (i : Int) ∧ rd h (i : Int) ≤ -1
  · rw [if_pos hsub, if_pos (by simp [hsub])]
  · rw [if_neg hsub, if_neg (by simpa using hsub)]
theorem implMean_step {h : List Int} (hw : wfH h) (hl : h.length ≤ 1048576) {i : Nat} (hi : i < h.length) {s : List Int × Nat} (hs : mto h i = some s) (K : Nat) :
    impl_Hoist_meaning.l0 (K + 2) h s.1 (s.2 : Int) h (h.length : Int) (i : Int) = some ([], false) ∧ mto h (i + 1) = none ∨ ∃ s', mto h (i + 1) = some s' ∧ ∃ K', (K' = K ∨ K' = K + 1) ∧ impl_Hoist_meaning.l0 (K + 2) h s.1 (s.2 : Int) h (h.length : Int) (i : Int) = impl_Hoist_meaning.l0 K' h s'.1 (s'.2 : Int) h (h.length : Int) ((i + 1 : Nat) : Int) := by
  obtain ⟨o1, o2, o3⟩ := mto_ok i hs
  have hb := wfH_at hw hi
  have hm : mto h (i + 1) = mstep (rd h (i : Int)) s := by rw [mto, hs, Option.bind_some]
  rw [hm]
  unfold mstep
  by_cases hn : rd h (i : Int) = -10
  · rw [if_pos hn, mean_A hl hi o1 o2 (K + 1) hn]
    by_cases hg : s.2 = s.1.length
    · rw [if_pos hg, if_pos hg]
      exact .inl (And.intro (Eq.refl _) (Eq.refl _))
    · rw [if_neg hg, if_neg hg]
      exact .inr (Exists.intro _ (And.intro (Eq.refl _) (Exists.intro (K + 1) (And.intro (.inr (Eq.refl _)) (Eq.refl _)))))
  · rw [if_neg hn, mean_l hl hi o1 o2 hb hn]
    by_cases hsub : -4 ≤ rd h (i : Int) ∧ rd h (i : Int) ≤ -1
    · rw [if_pos hsub, if_pos hsub]
      have hat : (s.2 : Int) - rd h (i : Int) - 1 = ((s.2 + (-rd h (i : Int)).toNat - 1 : Nat) : Int) := by omega
      rw [hat]
      by_cases hlt : s.2 + (-rd h (i : Int)).toNat - 1 < s.1.length
      · have hk := o3 _ hlt (by omega)
        rw [if_pos hlt, decide_eq_true (by omega : ((s.2 + (-rd h (i : Int)).toNat - 1 : Nat) : Int) < (s.1.length : Int)), mean_jt hl hi o1 hlt hk]
        exact .inr (Exists.intro _ (And.intro (Eq.refl _) (Exists.intro K (And.intro (.inl (Eq.refl _)) (Eq.refl _)))))
      · rw [if_neg hlt, decide_eq_false (by omega : ¬((s.2 + (-rd h (i : Int)).toNat - 1 : Nat) : Int) < (s.1.length : Int)), mean_j hl hi o1 _ hb, if_neg (by omega)]
        exact .inl (And.intro (Eq.refl _) (Eq.refl _))
    · rw [if_neg hsub, if_neg hsub, mean_j hl hi o1 _ hb]
      by_cases hk : 0 ≤ rd h (i : Int) ∧ rd h (i : Int) ≤ 39
      · rw [if_pos hk, if_pos hk]
        exact .inr (Exists.intro _ (And.intro (Eq.refl _) (Exists.intro K (And.intro (.inl (Eq.refl _)) (Eq.refl _)))))
      · rw [if_neg hk, if_neg hk]
        exact .inl (And.intro (Eq.refl _) (Eq.refl _))
theorem implMean_all {h : List Int} (hw : wfH h) (hl : h.length ≤ 1048576) : ∀ d i s K, i + d = h.length → mto h i = some s → 2 * d + 1 ≤ K → ∃ o, impl_Hoist_meaning.l0 K h s.1 (s.2 : Int) h (h.length : Int) (i : Int) = some (o, (meanO h).isSome) ∧ (∀ m, meanO h = some m → o = m) := by
  intro d
  induction d with
  | zero =>
    intro i s K hi hs hK
    obtain ⟨K, rfl⟩ : ∃ m, K = m + 1 := ⟨K - 1, by omega⟩
    obtain rfl : i = h.length := by omega
    simp only [impl_Hoist_meaning.l0]
    rw [if_neg (by omega)]
    simp only [impl_size_int8.f, Option.bind_some, within8]
    unfold meanO
    rw [hs]
    by_cases hin : 1 ≤ h.length ∧ h.length ≤ 8
    · rw [if_pos hin, if_pos (by simp; omega)]
      by_cases hg : s.2 < s.1.length
      · exact ⟨s.1, by simp [hg], fun m hm => by simpa [hg] using hm⟩
      · exact ⟨s.1, by simp [hg], fun m hm => by simp [hg] at hm⟩
    · rw [if_neg hin, if_neg (by simp; omega)]
      exact ⟨s.1, rfl, fun m hm => by cases hm⟩
  | succ d ih =>
    intro i s K hi hs hK
    obtain ⟨K, rfl⟩ : ∃ m, K = m + 2 := ⟨K - 2, by omega⟩
    rcases implMean_step hw hl (by omega : i < h.length) hs K with ⟨h1, h2⟩ | ⟨s', h1, K', hK', h2⟩
    · have : meanO h = none := by
        unfold meanO
        rw [mto_none h2 (by omega)]
        split <;> rfl
      rw [h1, this]
      exact ⟨[], rfl, fun m hm => by cases hm⟩
    · rw [h2]
      exact ih (i + 1) s' K' (by omega) h1 (by omega)
theorem implMean_eq {k : Nat} {h : List Int} (hw : wfH h) (hl : h.length ≤ 1048576) (hk : 2200000 < k) : ∃ o, impl_Hoist_meaning.f k h = some (o, (meanO h).isSome) ∧ ∀ m, meanO h = some m → o = m := by
  unfold impl_Hoist_meaning.f
  exact implMean_all hw hl h.length 0 ([], 0) k (by omega) rfl (by omega)
theorem implValidH {k : Nat} {h : List Int} (hw : wfH h) (hl : h.length ≤ 1048576) (hk : 2200000 < k) : impl_ValidHoist.f k h = some (meanO h).isSome := by
  obtain ⟨o, h1, _⟩ := implMean_eq hw hl hk
  unfold impl_ValidHoist.f
  rw [h1]
  rfl
theorem group_end {h : List Int} {n : Nat} {s s' : List Int × Nat} (hs : mto h n = some s) (hs' : mstep (rd h (n : Int)) s = some s') : (rd h (n : Int) = -10 ↔ s'.2 = n + 1) := by
  obtain ⟨o1, o2, _⟩ := mto_ok n hs
  unfold mstep at hs'
  split at hs'
  · rename_i hn
    split at hs'
    · cases hs'
    · cases hs'
      exact ⟨fun _ => by simp only; omega, fun _ => hn⟩
  · rename_i hn
    split at hs'
    · split at hs'
      · cases hs'
        exact ⟨fun h => absurd h hn, fun h => by simp only at h; omega⟩
      · cases hs'
    · split at hs'
      · cases hs'
        exact ⟨fun h => absurd h hn, fun h => by simp only at h; omega⟩
      · cases hs'
set_option maxHeartbeats 1000000 in
theorem specMean_all {h : List Int} (hw : wfH h) (hl : 1 ≤ h.length ∧ h.length ≤ 8) : ∀ d i s K, i + d = h.length → mto h i = some s → (i = h.length → s.2 < i) → 3 * d + 1 ≤ K → spec_l02Read.l0 K h (h.length : Int) s.1 (s.2 : Int) (i : Int) = some (match meanO h with | some m => (m, true) | none => ([], false)) := by
  intro d
  induction d with
  | zero =>
    intro i s K hi hs hlast hK
    obtain ⟨K, rfl⟩ : ∃ m, K = m + 1 := ⟨K - 1, by omega⟩
    obtain rfl : i = h.length := by omega
    have o := mto_ok _ hs
    simp only [spec_l02Read.l0]
    rw [if_neg (by omega)]
    unfold meanO
    rw [if_pos hl, hs]
    simp only
    rw [if_pos (by rw [o.1]; exact hlast rfl)]
  | succ d ih =>
    intro i s K hi hs hlast hK
    have hil : i < h.length := by omega
    obtain ⟨o1, o2, o3⟩ := mto_ok i hs
    have hb := wfH_at hw hil
    have hm : mto h (i + 1) = mstep (rd h (i : Int)) s := by rw [mto, hs]; rfl
    have hnone : mstep (rd h (i : Int)) s = none → meanO h = none := fun hh => by
      unfold meanO
      rw [mto_none (hm.trans hh) (by omega)]
      split <;> rfl
    have hfwd : ∀ s' K', mstep (rd h (i : Int)) s = some s' → (i + 1 = h.length → rd h (i : Int) ≠ -10) → 3 * d + 1 ≤ K' → spec_l02Read.l0 K' h (h.length : Int) s'.1 (s'.2 : Int) ((i + 1 : Nat) : Int) = some (match meanO h with | some m => (m, true) | none => ([], false)) := fun s' K' hs' hne hK' => by
      have o' := mto_ok (i + 1) (hm.trans hs')
      refine ih (i + 1) s' K' (by omega) (hm.trans hs') (fun he => ?_) hK'
      have g := group_end hs hs'
      have := hne he
      have := o'.2.1
      rcases Nat.lt_or_ge s'.2 (i + 1) with e | e
      · exact e
      · exact absurd (g.2 (by omega)) (hne he)
    obtain ⟨K, rfl⟩ : ∃ m, K = m + 3 := ⟨K - 3, by omega⟩
    rw [show K + 3 = (K + 2) + 1 from rfl]
    generalize hK2 : K + 2 = K2
    simp only [spec_l02Read.l0]
    rw [if_pos (by omega), if_pos (by omega), if_pos (by omega)]
    unfold mstep at hnone hfwd
    generalize rd h (i : Int) = n at *
    by_cases hn : n = -10
    · rw [if_pos hn] at hnone hfwd ⊢
      by_cases hg : s.2 = s.1.length
      · rw [if_pos (by omega), hnone (by rw [if_pos hg])]
      · rw [if_neg (by omega)]
        by_cases hlst : i + 1 = h.length
        · rw [if_pos (by rw [w64 (by omega) (by omega)]; omega)]
          have hmn : meanO h = none := by
            unfold meanO
            rw [if_pos hl]
            have e2 : mto h h.length = some (s.1 ++ [n], s.1.length + 1) := by
              rw [← hlst, hm]
              unfold mstep
              rw [if_pos hn, if_neg hg]
            rw [e2]
            simp only
            rw [if_neg (by simp)]
          rw [hmn]
        · rw [if_neg (by rw [w64 (by omega) (by omega)]; omega), if_pos (by omega), w64 (by omega) (by omega)]
          have := hfwd (s.1 ++ [n], s.1.length + 1) K2 (by rw [if_neg hg]) (fun h => absurd h hlst) (by omega)
          rw [show ((i + 1 : Nat) : Int) = (i : Int) + 1 by omega] at this
          rw [← this]
          simp only
          rw [show ((s.1.length + 1 : Nat) : Int) = (i : Int) + 1 by omega]
    · rw [if_neg hn] at hnone hfwd ⊢
      rw [show K2 = (K + 1) + 1 by omega]
      generalize hK1 : K + 1 = K1
      have hj1 : (if n ≥ 0 then (spec_l02Read.j1 (K1 + 1) h (h.length : Int) s.1 (s.2 : Int) (i : Int) n (decide (n < 40))) else (spec_l02Read.j1 (K1 + 1) h (h.length : Int) s.1 (s.2 : Int) (i : Int) n false)) = spec_l02Read.j1 (K1 + 1) h (h.length : Int) s.1 (s.2 : Int) (i : Int) n (decide (0 ≤ n ∧ n ≤ 39)) := by
        by_cases h0 : 0 ≤ n
        · rw [if_pos h0]
          congr 1
          rw [decide_eq_decide]
          omega
        · rw [if_neg h0, decide_eq_false (by omega)]
      rw [hj1]
      by_cases hk : 0 ≤ n ∧ n ≤ 39
      · rw [if_neg (by omega), if_pos hk] at hnone hfwd
        rw [decide_eq_true hk]
        simp only [spec_l02Read.j1]
        rw [if_pos trivial, if_pos (by omega), w64 (by omega) (by omega)]
        have := hfwd (s.1 ++ [n], s.2) K1 rfl (fun _ => hn) (by omega)
        rw [show ((i + 1 : Nat) : Int) = (i : Int) + 1 by omega] at this
        exact this
      · rw [decide_eq_false hk]
        simp only [spec_l02Read.j1]
        rw [if_neg (by simp), ← hK1]
        have hj2 : (if n < 0 then (spec_l02Read.j2 (K + 1) h (h.length : Int) s.1 (s.2 : Int) (i : Int) n (decide (n ≥ (-4)))) else (spec_l02Read.j2 (K + 1) h (h.length : Int) s.1 (s.2 : Int) (i : Int) n false)) = spec_l02Read.j2 (K + 1) h (h.length : Int) s.1 (s.2 : Int) (i : Int) n (decide (-4 ≤ n ∧ n ≤ -1)) := by
          by_cases h0 : n < 0
          · rw [if_pos h0]
            congr 1
            rw [decide_eq_decide]
            omega
          · rw [if_neg h0, decide_eq_false (by omega)]
        rw [hj2]
        by_cases hsub : -4 ≤ n ∧ n ≤ -1
        · rw [if_pos hsub] at hnone hfwd
          rw [decide_eq_true hsub]
          simp only [spec_l02Read.j2]
          rw [if_pos trivial, i8w (n := -n) (by omega) (by omega), w64 (n := -n) (by omega) (by omega), w64 (n := (s.2 : Int) + -n) (by omega) (by omega), w64 (n := (s.2 : Int) + -n - 1) (by omega) (by omega)]
          have hat : (s.2 : Int) + -n - 1 = ((s.2 + (-n).toNat - 1 : Nat) : Int) := by omega
          rw [hat]
          by_cases hlt : s.2 + (-n).toNat - 1 < s.1.length
          · rw [if_neg (by omega), if_pos (by omega), if_pos (by omega), if_pos (by omega), w64 (by omega) (by omega)]
            rw [if_pos hlt] at hfwd
            have := hfwd _ K rfl (fun _ => hn) (by omega)
            rw [show ((i + 1 : Nat) : Int) = (i : Int) + 1 by omega] at this
            exact this
          · rw [if_pos (by omega), hnone (by rw [if_neg hlt])]
        · rw [if_neg hsub, if_neg hk] at hnone
          rw [decide_eq_false hsub]
          simp only [spec_l02Read.j2]
          rw [if_neg (by simp), hnone rfl]
theorem specMean_eq {k : Nat} {h : List Int} (hw : wfH h) (hk : 100 < k) : spec_l02Read.f k h = some (match meanO h with | some m => (m, true) | none => ([], false)) := by
  unfold spec_l02Read.f
  rw [in_eq]
  simp only [Option.bind_some]
  by_cases hl : 1 ≤ h.length ∧ h.length ≤ 8
  · rw [if_pos (by simp; omega)]
    exact specMean_all hw hl h.length 0 ([], 0) k (by omega) rfl (by omega) (by omega)
  · rw [if_neg (by simp; omega)]
    unfold meanO
    rw [if_neg hl]
theorem specOkH {k : Nat} {h : List Int} (hw : wfH h) (hk : 100 < k) : spec_l02Ok.f k h = some (meanO h).isSome := by
  unfold spec_l02Ok.f
  rw [specMean_eq hw hk]
  cases meanO h <;> rfl
end Go.Proofs.Ytheenidapjkboaa.G.Pure
end

section
namespace Go.Proofs.Ytheenidapjkboaa.G.Pure
open Go.RowKit Go.Proofs.Ytheenidapjkboaa.G Go.Proofs.YtheenidapjkboaaW.PrintWords Go.Proofs.YtheenidapjkboaaW.PrintLast Go.Proofs.YtheenidapjkboaaW.PrintMore
set_option linter.unusedVariables false
set_option linter.unusedSimpArgs false
theorem rd_impl_Times {l : List Tm} {i : Nat} (h : i < l.length) : rd_T106 l (i : Int) = l[i] := by
  simp [rd_T106, List.getD_eq_getElem?_getD, List.getElem?_eq_getElem h]
def tup (t : Tm) : Int × Int × Int × Int := (t.f0, t.f1, t.f2, t.f3)
theorem due_eq (k : Nat) (line : List Sp) (pre : List Tm) (i : Nat) (read : Int) (hi : i < line.length) (hp : pre.length = i) (h20 : i < 20) (hok : TimesOK pre) (hx : shipIn line[i]) (hr : 0 ≤ read ∧ read ≤ 120) (hk : 8 < k) :
    spec_l06Due.f k line pre (i : Int) read = some (tup (dueL pre line[i] read)) := by
  obtain ⟨s0, s1, s2, s3, s4, s5⟩ := hx
  unfold spec_l06Due.f
  rw [if_pos (by omega), if_pos (by omega), rd_impl_Ship hi]
  rw [w64 (n := (line[i]).f2) (by omega) (by omega), w64 (n := (line[i]).f0) (by omega) (by omega)]
  by_cases h0 : (i : Int) = 0
  · rw [if_pos h0]
    simp [dueL, tup, hp, show i = 0 by omega]
  · rw [if_neg h0, w64 (by omega) (by omega)]
    have hsc := fun n (hn : (i - (line[i]).f0.toNat) + n ≤ pre.length) => scan_spec pre hok (i - (line[i]).f0.toNat) n hn
    generalize line[i] = x at *
    obtain ⟨r, hr', h⟩ := loop_inv (fun k (s : Int × Int × Int) => spec_l06Due.l0 k pre (i : Int) read x.f2 s.1 s.2.1 s.2.2 (-1) (-1)) x.f0.toNat
      (fun j s => s.1 = (i : Int) - x.f0 + j ∧ (s.2.1, s.2.2) = scan pre (i - x.f0.toNat) ((i + j - x.f0.toNat) - (i - x.f0.toNat)))
      (fun r => r = tup (dueL pre x read))
      (fun k j s hj ⟨h1, h2⟩ => by
        obtain ⟨p, f, s⟩ := s
        simp only at h1 h2
        subst h1
        refine .inl ?_
        by_cases hneg : 0 ≤ (i : Int) - x.f0 + j
        · obtain ⟨q, hq⟩ : ∃ q : Nat, (i : Int) - x.f0 + j = (q : Int) := ⟨((i : Int) - x.f0 + j).toNat, by omega⟩
          have hql : q < pre.length := by omega
          have hb := hok.bound q _ (List.getElem?_eq_getElem hql)
          have hn : i - x.f0.toNat + (i + j - x.f0.toNat - (i - x.f0.toNat)) = q := by omega
          have hn2 : i + (j + 1) - x.f0.toNat - (i - x.f0.toNat) = (i + j - x.f0.toNat - (i - x.f0.toNat)) + 1 := by omega
          refine ⟨((q : Int) + 1, (scan pre (i - x.f0.toNat) (i + (j + 1) - x.f0.toNat - (i - x.f0.toNat))).1, (scan pre (i - x.f0.toNat) (i + (j + 1) - x.f0.toNat - (i - x.f0.toNat))).2), ⟨by simp only; omega, rfl⟩, ?_⟩
          rw [hn2]
          simp only [scan, ← h2, hn, List.getElem?_eq_getElem hql]
          rw [hq]
          simp only [spec_l06Due.l0]
          rw [if_pos (by omega), if_pos (by omega), if_pos (by omega), if_pos (by omega), rd_impl_Times hql, w64 (n := (q : Int) + 1) (by omega) (by omega), i8w (n := (q : Int)) (by omega) (by omega)]
          by_cases c1 : 0 ≤ pre[q].f3
          · rw [if_pos (by omega)]
            by_cases c2 : f < 0
            · rw [if_pos c2, if_pos ⟨c1, .inl c2⟩]
            · rw [if_neg c2]
              by_cases c3 : pre[q].f3 < s
              · rw [if_pos c3, if_pos ⟨c1, .inr c3⟩]
              · rw [if_neg c3, if_neg (fun h => h.2.elim c2 c3)]
          · rw [if_neg (by omega), if_neg (fun h => c1 h.1)]
        · have hn : i + j - x.f0.toNat - (i - x.f0.toNat) = 0 := by omega
          have hn2 : i + (j + 1) - x.f0.toNat - (i - x.f0.toNat) = 0 := by omega
          refine ⟨((i : Int) - x.f0 + j + 1, f, s), ⟨by simp only; omega, ?_⟩, ?_⟩
          · rw [hn2]; rw [hn] at h2; exact h2
          · simp only [spec_l06Due.l0]
            rw [if_pos (by omega), if_neg (by omega), w64 (by omega) (by omega)])
      (fun k s ⟨h1, h2⟩ => by
        obtain ⟨p, f, s⟩ := s
        simp only at h1 h2
        have hp' : p = (i : Int) := by omega
        subst hp'
        have hn : i + x.f0.toNat - x.f0.toNat - (i - x.f0.toNat) = pre.length - (pre.length - x.f0.toNat) := by omega
        refine ⟨_, rfl, ?_⟩
        have hs := hsc (pre.length - (pre.length - x.f0.toNat)) (by omega)
        rw [hn] at h2
        rw [← h2] at hs
        simp only [spec_l06Due.l0]
        rw [if_neg (by omega)]
        unfold dueL
        rw [if_neg (show ¬ pre.length = 0 by omega), show pre.length - x.f0.toNat = i - x.f0.toNat by omega]
        rw [show pre.length - x.f0.toNat = i - x.f0.toNat by omega] at h2
        rw [← h2]
        simp only
        by_cases c : 0 ≤ f
        · rw [if_pos (by omega), if_pos c]
          rcases hs with hs | hs
          · simp only [Prod.mk.injEq] at hs
            omega
          · simp only at hs
            rw [w64 (n := s + read) (by omega) (by omega), w64 (by omega) (by omega)]
            rfl
        · rw [if_neg (by omega), if_neg c]
          rcases hs with hs | hs
          · simp only [Prod.mk.injEq] at hs
            rw [hs.1, hs.2]
            rfl
          · simp only at hs
            omega) k ((i : Int) - x.f0, -1, -1) ⟨by simp, by
        rw [show i + 0 - x.f0.toNat - (i - x.f0.toNat) = 0 by omega]
        rfl⟩ (by omega)
    subst hr'
    exact h
theorem specTimes_eq (k : Nat) (line : List Sp) (ship more : Int) (hl : line.length ≤ 20) (hx : ∀ x ∈ line, shipIn x) (hr : ∀ (i : Nat) (x : Sp), line[i]? = some x → 0 ≤ x.f1 + (if (i : Int) = ship then more else 0) ∧ x.f1 + (if (i : Int) = ship then more else 0) ≤ 120) (hm : 0 ≤ more ∧ more ≤ 60) (hk : 40 < k) :
    spec_l06Times.f k line ship more = some (timesL ship more line) := by
  unfold spec_l06Times.f
  have go : ∀ (rest : List Sp) (k : Nat) (acc : List Tm), line.drop acc.length = rest → TimesOK acc → acc.length ≤ line.length → rest.length + 10 < k → spec_l06Times.l0 k line ship more acc (acc.length : Int) = some (timesGo ship more rest acc) := by
    intro rest
    induction rest with
    | nil =>
      intro k acc hd hok hle hk
      obtain ⟨k, rfl⟩ : ∃ m, k = m + 1 := ⟨k - 1, by omega⟩
      have := List.drop_eq_nil_iff.1 hd
      simp only [spec_l06Times.l0]
      rw [if_neg (by omega)]
      rfl
    | cons x xs ih =>
      intro k acc hd hok hle hk
      simp only [List.length_cons] at hk
      obtain ⟨k, rfl⟩ : ∃ m, k = m + 1 := ⟨k - 1, by omega⟩
      have hlt : acc.length < line.length := by
        have := congrArg List.length hd
        simp at this
        omega
      have hx0 : line[acc.length] = x := by
        have h1 := List.drop_eq_getElem_cons hlt
        rw [hd] at h1
        exact (List.cons.inj h1).1.symm
      have hxs : line.drop (acc.length + 1) = xs := by
        have h1 := List.drop_eq_getElem_cons hlt
        rw [hd] at h1
        exact (List.cons.inj h1).2.symm
      have hmem : x ∈ line := hx0 ▸ List.getElem_mem hlt
      obtain ⟨s0, s1, s2, s3, s4, s5⟩ := hx x hmem
      have hr' := hr acc.length x (by rw [List.getElem?_eq_getElem hlt, hx0])
      simp only [spec_l06Times.l0]
      rw [if_pos (by omega), if_pos (by omega), rd_impl_Ship hlt, hx0]
      rw [w64 (n := x.f1) (by omega) (by omega), w64 (n := (acc.length : Int) + 1) (by omega) (by omega)]
      have step : ∀ read, read = x.f1 + (if (acc.length : Int) = ship then more else 0) → 
          ((spec_l06Due.f k line acc (acc.length : Int) read).bind fun bt => (if acc.length < 4398046511104 then (spec_l06Times.l0 k line ship more (acc ++ [(⟨bt.1, bt.2.1, bt.2.2.1, bt.2.2.2⟩ : Tm)]) ((acc.length : Int) + 1)) else none)) = some (timesGo ship more (x :: xs) acc) := by
        intro read hread
        rw [due_eq k line acc acc.length read hlt rfl (by omega) hok (by rw [hx0]; exact hx x hmem) (by rw [hread]; exact hr') (by omega)]
        simp only [Option.bind_some]
        rw [if_pos (by omega), hx0]
        have h2 := ih k (acc ++ [dueL acc x read]) (by simpa using hxs) (due_ok hok ⟨s4, s5⟩ (by rw [hread]; exact hr')) (by simp; omega) (by omega)
        rw [show ((acc ++ [dueL acc x read]).length : Int) = (acc.length : Int) + 1 by simp] at h2
        simp only [tup, timesGo]
        rw [← hread]
        exact h2
      by_cases c : (acc.length : Int) = ship
      · rw [if_pos c]
        rw [if_pos c] at hr'
        rw [w64 (n := x.f1 + more) (by omega) (by omega)]
        exact step _ (by rw [if_pos c])
      · rw [if_neg c]
        exact step _ (by rw [if_neg c, Int.add_zero])
  exact go line k [] rfl TimesOK.nil (by simp) (by omega)
end Go.Proofs.Ytheenidapjkboaa.G.Pure
end

section
namespace Go.Proofs.Ytheenidapjkboaa.G.Pure
open Go.RowKit Go.Proofs.Ytheenidapjkboaa.G Go.Proofs.YtheenidapjkboaaW.PrintWords Go.Proofs.YtheenidapjkboaaW.PrintLast Go.Proofs.YtheenidapjkboaaW.PrintMore
set_option linter.unusedVariables false
set_option linter.unusedSimpArgs false
theorem implInner (k : Nat) (acc : List Tm) (line : List Sp) (x : Sp) (i a : Nat) (len x12 : Int) (hi : acc.length = i) (h20 : i < 20) (h1i : 0 < i) (hok : TimesOK acc) (hx : shipIn x) (ha : a ≤ i) :
  ∀ d n,a + n + d = i → impl_times.l1 (k + d + 1) acc (i : Int) ((a + n : Nat) : Int) line len x12 x.f0 x.f1 x.f2 (scan acc a n).1 (scan acc a n).2 (-1) (-1) =
   impl_times.l1 (k + 1) acc (i : Int) (i : Int) line len x12 x.f0 x.f1 x.f2 (scan acc a (i - a)).1 (scan acc a (i - a)).2 (-1) (-1) := by
 intro d
 induction d with
 | zero =>
  intro n hn
  rw [show i - a = n by omega,show a + n = i by omega]
 | succ d ih =>
  intro n hn
  have hql : a + n < acc.length := by omega
  have hb := hok.bound (a + n) _ (List.getElem?_eq_getElem hql)
  have hsc := scan_spec acc hok a n (by omega)
  rw [← ih (n + 1) (by omega)]
  rw [show k + (d + 1) + 1 = (k + d + 1) + 1 by omega]
  conv => lhs;unfold impl_times.l1
  rw [if_pos (by omega),if_pos (by omega),if_pos (by omega),rd_impl_Times hql,w64 (n := ((a + n : Nat) : Int) + 1) (by omega) (by omega),i8w (n := ((a + n : Nat) : Int)) (by omega) (by omega)]
  rw [show ((a + (n + 1) : Nat) : Int) = ((a + n : Nat) : Int) + 1 by omega]
  have hs1 : scan acc a (n + 1) = if 0 ≤ acc[a + n].f3 ∧ ((scan acc a n).1 < 0 ∨ acc[a + n].f3 < (scan acc a n).2) then (((a + n : Nat) : Int),acc[a + n].f3) else scan acc a n := by
   rcases hs : scan acc a n with ⟨f,s⟩
   simp only [scan,hs,List.getElem?_eq_getElem hql]
  rw [hs1]
  have hneg : (scan acc a n).1 < 0 ↔ (scan acc a n).2 < 0 := by
   rcases hsc with h | h
   ·rw [h]
   ·omega
  by_cases c1 : 0 ≤ acc[a + n].f3
  ·rw [if_pos (by omega)]
   by_cases c2 : (scan acc a n).2 < 0
   ·rw [if_pos c2,if_pos ⟨c1,.inl (hneg.2 c2)⟩]
   ·rw [if_neg c2]
    by_cases c3 : acc[a + n].f3 < (scan acc a n).2
    ·rw [if_pos c3,if_pos ⟨c1,.inr c3⟩]
    ·rw [if_neg c3,if_neg (fun h => h.2.elim (fun h => c2 (hneg.1 h)) c3)]
  ·rw [if_neg (by omega),if_neg (fun h => c1 h.1)]
theorem implRound (k : Nat) (acc : List Tm) (line : List Sp) (x : Sp) (hlt : acc.length < line.length) (h20 : line.length ≤ 20) (hx0 : line[acc.length] = x) (hok : TimesOK acc) (hx : shipIn x) :
  impl_times.l0 (k + (acc.length - (acc.length - x.f0.toNat)) + 3) acc line (line.length : Int) (acc.length : Int) = impl_times.l0 k (acc ++ [dueL acc x x.f1]) line (line.length : Int) ((acc.length : Int) + 1) := by
 obtain ⟨s0,s1,s2,s3,s4,s5⟩ := hx
 have hxx : shipIn x := ⟨s0,s1,s2,s3,s4,s5⟩
 rcases Nat.eq_zero_or_pos acc.length with h0 | h0
 ·rw [show k + (acc.length - (acc.length - x.f0.toNat)) + 3 = k + 3 by omega]
  conv => lhs;unfold impl_times.l0
  rw [if_pos (by omega),if_pos (by omega),if_pos (by omega),if_pos (by omega),rd_impl_Ship hlt,hx0]
  conv => lhs;unfold impl_times.j1
  rw [w64 (n := x.f0) (by omega) (by omega),w64 (by omega) (by omega)]
  rw [show mx ((acc.length : Int) - x.f0) 0 = (acc.length : Int) by unfold mx;split <;> omega]
  conv => lhs;unfold impl_times.l1
  rw [if_neg (by omega),if_pos (by omega),if_pos (by omega),if_pos (by omega),w64 (n := x.f2) (by omega) (by omega),w64 (n := x.f2) (by omega) (by omega),w64 (n := (acc.length : Int) + 1) (by omega) (by omega)]
  simp [dueL,h0]
 ·obtain ⟨a,ha⟩ : ∃ a,a = acc.length - x.f0.toNat := ⟨_,rfl⟩
  rw [← ha]
  conv => lhs;unfold impl_times.l0
  rw [if_pos (by omega),if_pos (by omega),if_pos (by omega),if_neg (by omega),rd_impl_Ship hlt,hx0]
  conv => lhs;unfold impl_times.j1
  rw [w64 (n := x.f0) (by omega) (by omega),w64 (n := (acc.length : Int) - x.f0) (by omega) (by omega)]
  rw [show mx ((acc.length : Int) - x.f0) 0 = ((a + 0 : Nat) : Int) by unfold mx;split <;> omega]
  have h1 := implInner k acc line x acc.length a (line.length : Int) (acc.length : Int) rfl (by omega) h0 hok hxx (by omega) (acc.length - a) 0 (by omega)
  simp only [scan] at h1
  rw [h1]
  have hsc := scan_spec acc hok a (acc.length - a) (by omega)
  have hd : dueL acc x x.f1 = if 0 ≤ (scan acc a (acc.length - a)).1 then ⟨(scan acc a (acc.length - a)).1,(scan acc a (acc.length - a)).2,(scan acc a (acc.length - a)).2 + x.f1,(scan acc a (acc.length - a)).2 + x.f1 + x.f2⟩ else ⟨-1,-1,-1,-1⟩ := by
   unfold dueL
   rw [if_neg (show ¬ acc.length = 0 by omega),← ha]
  rw [hd]
  rcases hsc with h | h
  ·rw [h]
   conv => lhs;unfold impl_times.l1
   simp only
   rw [if_neg (by omega),if_neg (by omega),if_pos (by omega),if_neg (by omega),w64 (by omega) (by omega)]
  ·conv => lhs;unfold impl_times.l1
   rw [if_neg (by omega),if_pos (by omega),if_neg (by omega),if_pos (by omega),if_pos h.1]
   rw [w64 (n := x.f1) (by omega) (by omega),w64 (n := x.f2) (by omega) (by omega),w64 (n := (scan acc a (acc.length - a)).2 + x.f1) (by omega) (by omega),w64 (n := (scan acc a (acc.length - a)).2 + x.f1 + x.f2) (by omega) (by omega),w64 (n := (acc.length : Int) + 1) (by omega) (by omega)]
theorem timesGo_plain (xs : List Sp) (acc : List Tm) : ∀ x,timesGo (-1) 0 (x :: xs) acc = timesGo (-1) 0 xs (acc ++ [dueL acc x x.f1]) := by
 intro x
 simp only [timesGo]
 rw [if_neg (by omega),Int.add_zero]
theorem implTimes_eq (k : Nat) (line : List Sp) (hl : line.length ≤ 20) (hx : ∀ x ∈ line,shipIn x) (hk : 200 < k) : impl_times.f k line = some (timesL (-1) 0 line) := by
 have go : ∀ (rest : List Sp) (k : Nat) (acc : List Tm),line.drop acc.length = rest → TimesOK acc → acc.length ≤ line.length → 9 * rest.length < k → impl_times.l0 k acc line (line.length : Int) (acc.length : Int) = some (timesGo (-1) 0 rest acc) := by
  intro rest
  induction rest with
  | nil =>
   intro k acc hd hok hle hk
   obtain ⟨k,rfl⟩ : ∃ m,k = m + 1 := ⟨k - 1,by omega⟩
   have := List.drop_eq_nil_iff.1 hd
   unfold impl_times.l0
   rw [if_neg (by omega)]
   rfl
  | cons x xs ih =>
   intro k acc hd hok hle hk
   simp only [List.length_cons] at hk
   have hlt : acc.length < line.length := by
    have := congrArg List.length hd
    simp at this
    omega
   have hx0 : line[acc.length] = x := by
    have h1 := List.drop_eq_getElem_cons hlt
    rw [hd] at h1
    exact (List.cons.inj h1).1.symm
   have hxs : line.drop (acc.length + 1) = xs := by
    have h1 := List.drop_eq_getElem_cons hlt
    rw [hd] at h1
    exact (List.cons.inj h1).2.symm
   have hmem : x ∈ line := hx0 ▸ List.getElem_mem hlt
   have hxx := hx x hmem
   obtain ⟨s0,s1,s2,s3,s4,s5⟩ := hxx
   obtain ⟨m,rfl,hm⟩ : ∃ m,k = m + (acc.length - (acc.length - x.f0.toNat)) + 3 ∧ 9 * xs.length < m := ⟨k - (acc.length - (acc.length - x.f0.toNat)) - 3,by omega,by omega⟩
   rw [implRound m acc line x hlt hl hx0 hok (hx x hmem),timesGo_plain]
   have h2 := ih m (acc ++ [dueL acc x x.f1]) (by simpa using hxs) (due_ok hok ⟨s4,s5⟩ ⟨s2,s3⟩) (by simp;omega) hm
   rw [show ((acc ++ [dueL acc x x.f1]).length : Int) = (acc.length : Int) + 1 by simp] at h2
   exact h2
 unfold impl_times.f
 exact go line k [] rfl TimesOK.nil (by simp) (by omega)
end Go.Proofs.Ytheenidapjkboaa.G.Pure
end

section
namespace Go.Proofs.Ytheenidapjkboaa.G.Pure
open Go.RowKit Go.Proofs.Ytheenidapjkboaa.G Go.Proofs.YtheenidapjkboaaW.PrintWords Go.Proofs.YtheenidapjkboaaW.PrintLast Go.Proofs.YtheenidapjkboaaW.PrintMore
set_option linter.unusedVariables false
set_option linter.unusedSimpArgs false
theorem ValidL.specTimes {line : List Sp} (v : ValidL line) {k : Nat} (hk : 300 < k) : spec_l06Times.f k line (-1) 0 = some (timesL (-1) 0 line) :=
 specTimes_eq k line (-1) 0 v.most v.in_ (fun i x hx => by
  have := v.ships x (List.mem_of_getElem? hx)
  rw [if_neg (by omega)]
  omega) ⟨by omega,by omega⟩ (by omega)
theorem ValidL.implTimes {line : List Sp} (v : ValidL line) {k : Nat} (hk : 300 < k) : impl_times.f k line = some (timesL (-1) 0 line) :=
 implTimes_eq k line v.most v.in_ (by omega)
theorem ValidL.timesOK {line : List Sp} (v : ValidL line) : TimesOK (timesL (-1) 0 line) :=
 timesGo_ok (-1) 0 line [] TimesOK.nil (fun x hx => by have := v.ships x hx;omega) (fun i x hx => by
  have := v.ships x (List.mem_of_getElem? hx)
  rw [if_neg (by simp only [List.length_nil];omega)]
  omega)
end Go.Proofs.Ytheenidapjkboaa.G.Pure
end

section
namespace Go.Proofs.Ytheenidapjkboaa.G.Pure
open Go.RowKit Go.Proofs.Ytheenidapjkboaa.G Go.Proofs.YtheenidapjkboaaW.PrintWords Go.Proofs.YtheenidapjkboaaW.PrintLast Go.Proofs.YtheenidapjkboaaW.PrintMore
set_option linter.unusedVariables false
set_option linter.unusedSimpArgs false
theorem times_from {ts : List Tm} (h : TimesOK ts) {i : Nat} (hi : i < ts.length) : (rd_T106 ts (i : Int)).f0 < (i : Int) ∨ (rd_T106 ts (i : Int)).f0 < 0 := by
 rw [rd_impl_Times hi]
 rcases Nat.eq_zero_or_pos i with h0 | h0
 ·subst h0
  have := h.first _ (List.getElem?_eq_getElem hi)
  omega
 ·rcases h.later i _ (List.getElem?_eq_getElem hi) h0 with e | e
  ·rw [e]
   exact .inr (by decide)
  ·omega
theorem rdH_len {read : Hs} (hi : ∀ x ∈ read,x.length ≤ 1048576) (i : Int) : (rd_L2 read i).length ≤ 1048576 := by
 unfold rd_L2
 rw [List.getD_eq_getElem?_getD]
 cases e : read[i.toNat]? with
 | none => simp
 | some x => exact hi x (List.mem_of_getElem? e)
end Go.Proofs.Ytheenidapjkboaa.G.Pure
end

section
namespace Go.Proofs.Ytheenidapjkboaa.G.Pure
open Go.RowKit Go.Proofs.Ytheenidapjkboaa.G Go.Proofs.YtheenidapjkboaaW.PrintWords Go.Proofs.YtheenidapjkboaaW.PrintLast Go.Proofs.YtheenidapjkboaaW.PrintMore
set_option linter.unusedVariables false
set_option linter.unusedSimpArgs false
def wfF (l : List Ft) : Prop := ∀ x ∈ l,(Lit.int .i8 x.f0).wf = true ∧ (Lit.int .i8 x.f1).wf = true ∧ (Lit.int .i8 x.f2).wf = true
def faultOk (n : Nat) (h : List Int) (f : Ft) : Bool := decide (1 ≤ f.f0 ∧ f.f0 ≤ (n : Int) - 1) && (decide (0 ≤ f.f1 ∧ f.f1 ≤ (h.length : Int) - 1) && (decide (0 ≤ f.f2 ∧ f.f2 ≤ 39) && decide (0 ≤ rd h f.f1)))
def dupF (l : List Ft) (i : Nat) : Bool := (l.take i).any fun g => g.f0 == (rd_T144 l (i : Int)).f0
def badF (n : Nat) (h : List Int) (l : List Ft) (i : Nat) : Bool := dupF l i || !faultOk n h (rd_T144 l (i : Int))
def faultsOk (n : Nat) (h : List Int) (l : List Ft) : Bool := decide (l.length ≤ 20) && (List.range l.length).all fun i => !badF n h l i
theorem wfF_at {l : List Ft} (hw : wfF l) {i : Nat} (hi : i < l.length) : -128 ≤ (rd_T144 l (i : Int)).f0 ∧ (rd_T144 l (i : Int)).f0 ≤ 127 ∧ -128 ≤ (rd_T144 l (i : Int)).f1 ∧ (rd_T144 l (i : Int)).f1 ≤ 127 ∧ -128 ≤ (rd_T144 l (i : Int)).f2 ∧ (rd_T144 l (i : Int)).f2 ≤ 127 := by
 rw [rd_impl_Fault hi]
 have := hw _ (List.getElem_mem hi)
 have a := i8b this.1
 have b := i8b this.2.1
 have c := i8b this.2.2
 omega
theorem faultsOk_false {n : Nat} {h : List Int} {l : List Ft} {i : Nat} (hi : i < l.length) (hb : badF n h l i = true) : faultsOk n h l = false := by
 unfold faultsOk
 rw [Bool.and_eq_false_iff]
 right
 rw [List.all_eq_false]
 exact ⟨i,List.mem_range.2 hi,by simp [hb]⟩
theorem faultsOk_end {n : Nat} {h : List Int} {l : List Ft} (hb : ∀ j,j < l.length → badF n h l j = false) : faultsOk n h l = decide (l.length ≤ 20) := by
 unfold faultsOk
 rw [List.all_eq_true.2 fun j hj => by rw [hb j (List.mem_range.1 hj)];rfl,Bool.and_true]
set_option maxHeartbeats 1000000 in
theorem implAre {k : Nat} {line : List Sp} {h : List Int} {l : List Ft} (hw : wfF l) (hn : line.length ≤ 1048576) (hh : h.length ≤ 1048576) (hl : l.length ≤ 1048576) (hk : l.length < k) : impl_areFaults.f k line h l = some (faultsOk line.length h l) := by
 unfold impl_areFaults.f
 obtain ⟨r,hr,h'⟩ := loop_inv (fun k (s : Int) => impl_areFaults.l0 k line h l l (l.length : Int) s) l.length (fun i s => s = (i : Int) ∧ ∀ j,j < i → badF line.length h l j = false) (fun r => r = faultsOk line.length h l)
  (fun k i s hi ⟨h1,h2⟩ => by
   subst h1
   have hb := wfF_at hw hi
   simp only [impl_areFaults.l0]
   rw [if_pos (by omega),if_pos (by omega),if_pos (by omega),if_pos (by omega),Int.toNat_natCast]
   rw [slices_ContainsFunc_Fault_Fault__impl_areFaults_1.f,anyO_eq (p := fun x : Ft => impl_areFaults_1.f x.f0 x.f1 x.f2 (rd_T144 l (i : Int)).f0 (rd_T144 l (i : Int)).f1 (rd_T144 l (i : Int)).f2) (q := fun x : Ft => x.f0 == (rd_T144 l (i : Int)).f0) (fun x _ => rfl)]
   simp only [Option.bind_some]
   have hst : badF line.length h l i = true → false = faultsOk line.length h l := fun hb => (faultsOk_false hi hb).symm
   have hgo : badF line.length h l i = false → ∃ s' : Int,(s' = ((i + 1 : Nat) : Int) ∧ ∀ j,j < i + 1 → badF line.length h l j = false) ∧ impl_areFaults.l0 k line h l l (l.length : Int) ((i : Int) + 1) = impl_areFaults.l0 k line h l l (l.length : Int) s' := fun hb => ⟨_,⟨rfl,fun j hj => by
    rcases Nat.lt_succ_iff_lt_or_eq.1 hj with e | e
    ·exact h2 j e
    ·subst e;exact hb⟩,by rw [show ((i + 1 : Nat) : Int) = (i : Int) + 1 by omega]⟩
   have hd : ((l.take i).any fun g => g.f0 == (rd_T144 l (i : Int)).f0) = dupF l i := rfl
   rw [hd]
   unfold badF at hst hgo
   cases hdu : dupF l i with
   | true =>
    rw [if_pos rfl]
    exact .inr ⟨false,hst (by rw [hdu];rfl),rfl⟩
   | false =>
    rw [hdu,Bool.false_or] at hst hgo
    rw [if_neg (by simp)]
    generalize rd_T144 l (i : Int) = f at *
    simp only [impl_size_Ship.f,impl_size_int8.f,Option.bind_some,within8]
    rw [w64 (n := f.f0) (by omega) (by omega),w64 (n := f.f1) (by omega) (by omega),w64 (n := (line.length : Int) - 1) (by omega) (by omega),w64 (n := (h.length : Int) - 1) (by omega) (by omega),kind_eq _ (by omega) (by omega),w64 (n := (i : Int) + 1) (by omega) (by omega)]
    simp only [Option.bind_some]
    unfold faultOk at hst hgo
    by_cases c1 : 1 ≤ f.f0 ∧ f.f0 ≤ (line.length : Int) - 1
    ·rw [decide_eq_true c1,Bool.true_and] at hst hgo
     rw [if_pos (by simp [c1])]
     by_cases c2 : 0 ≤ f.f1 ∧ f.f1 ≤ (h.length : Int) - 1
     ·rw [decide_eq_true c2,Bool.true_and] at hst hgo
      rw [if_pos (by simp [c2]),if_pos c2.1,if_pos (by omega)]
      by_cases c4 : rd h f.f1 < 0
      ·rw [if_pos c4]
       exact .inr ⟨false,hst (by rw [decide_eq_false (p := 0 ≤ rd h f.f1) (by omega),Bool.and_false];rfl),rfl⟩
      ·rw [if_neg c4]
       rw [decide_eq_true (p := 0 ≤ rd h f.f1) (by omega),Bool.and_true] at hst hgo
       by_cases c3 : 0 ≤ f.f2 ∧ f.f2 ≤ 39
       ·rw [if_pos (by simp [c3])]
        exact .inl (hgo (by simp [c3]))
       ·rw [if_neg (by simpa using c3)]
        exact .inr ⟨false,hst (by rw [decide_eq_false c3];rfl),rfl⟩
     ·rw [if_neg (by simpa using c2)]
      exact .inr ⟨false,hst (by rw [decide_eq_false c2];rfl),rfl⟩
    ·rw [if_neg (by simpa using c1)]
     exact .inr ⟨false,hst (by rw [decide_eq_false c1];rfl),rfl⟩)
  (fun k s ⟨h1,h2⟩ => by
   subst h1
   refine ⟨_,rfl,?_⟩
   simp only [impl_areFaults.l0]
   rw [if_neg (by omega),faultsOk_end h2]
   congr 1
   rw [decide_eq_decide]
   omega) k 0 ⟨rfl,fun j h => absurd h (Nat.not_lt_zero _)⟩ hk
 subst hr
 exact h'
theorem specDup {line : List Sp} {h : List Int} {l : List Ft} {i : Nat} (hi : i < l.length) (hl : l.length ≤ 20) (K : Nat) (b c : Int) : ∀ d j,j + d = i → ((∀ x,x < j → (rd_T144 l (x : Int)).f0 ≠ (rd_T144 l (i : Int)).f0) → spec_l06Faults.l1 (K + d + 1) line h l (i : Int) (j : Int) (rd_T144 l (i : Int)).f0 b c = if dupF l i = true then some false else spec_l06Faults.l0 K line h l ((i : Int) + 1)) := by
 intro d
 induction d with
 | zero =>
  intro j hj hx
  obtain rfl : j = i := by omega
  simp only [spec_l06Faults.l1,Nat.add_zero]
  rw [if_neg (by omega),w64 (by omega) (by omega),if_neg]
  intro hd
  unfold dupF at hd
  obtain ⟨g,hg,he⟩ := List.any_eq_true.1 hd
  obtain ⟨x,hx1,rfl⟩ := List.mem_iff_getElem.1 hg
  rw [List.length_take] at hx1
  rw [List.getElem_take] at he
  have := hx x (by omega)
  rw [rd_impl_Fault (by omega : x < l.length)] at this
  exact this (by simpa using he)
 | succ d ih =>
  intro j hj hx
  have hjl : j < l.length := by omega
  rw [show K + (d + 1) + 1 = (K + d + 1) + 1 by omega]
  generalize hK : K + d + 1 = K1
  simp only [spec_l06Faults.l1]
  rw [if_pos (by omega),if_pos (by omega),if_pos (by omega),w64 (by omega) (by omega)]
  by_cases he : (rd_T144 l (j : Int)).f0 = (rd_T144 l (i : Int)).f0
  ·rw [if_pos he,if_pos]
   unfold dupF
   rw [List.any_eq_true]
   refine ⟨l[j],?_,?_⟩
   ·rw [List.mem_iff_getElem]
    exact ⟨j,by rw [List.length_take];omega,by rw [List.getElem_take]⟩
   ·rw [rd_impl_Fault hjl] at he
    simpa using he
  ·rw [if_neg he,← hK]
   have e := ih (j + 1) (by omega) (fun x hx' => by
    rcases Nat.lt_succ_iff_lt_or_eq.1 hx' with e | e
    ·exact hx x e
    ·subst e;exact he)
   rw [show ((j + 1 : Nat) : Int) = (j : Int) + 1 by omega] at e
   exact e
set_option maxHeartbeats 1000000 in
theorem specAre_all {line : List Sp} {h : List Int} {l : List Ft} (hw : wfF l) (hn : line.length ≤ 1048576) (hh : h.length ≤ 1048576) (hl : l.length ≤ 20) : ∀ d i K,i + d = l.length → (∀ j,j < i → badF line.length h l j = false) → d * 30 + 1 ≤ K → spec_l06Faults.l0 K line h l (i : Int) = some (faultsOk line.length h l) := by
 intro d
 induction d with
 | zero =>
  intro i K hi hb hK
  obtain ⟨K,rfl⟩ : ∃ m,K = m + 1 := ⟨K - 1,by omega⟩
  obtain rfl : i = l.length := by omega
  simp only [spec_l06Faults.l0]
  rw [if_neg (by omega),faultsOk_end hb,decide_eq_true hl]
 | succ d ih =>
  intro i K hi hb hK
  have hil : i < l.length := by omega
  have hwb := wfF_at hw hil
  simp only [Nat.succ_mul] at hK
  obtain ⟨K,rfl⟩ : ∃ m,K = (m + i + 1) + 1 + 1 := ⟨K - i - 3,by omega⟩
  have hgo := fun (hbad : badF line.length h l i = false) => ih (i + 1) K (by omega) (fun j hj => by
   rcases Nat.lt_succ_iff_lt_or_eq.1 hj with e | e
   ·exact hb j e
   ·subst e;exact hbad) (by omega)
  rw [show ((i + 1 : Nat) : Int) = (i : Int) + 1 by omega] at hgo
  have hst : badF line.length h l i = true → faultsOk line.length h l = false := fun hbad => faultsOk_false hil hbad
  have hd := fun b c => specDup (line := line) (h := h) (l := l) hil hl K b c i 0 (by omega) (fun x hx => absurd hx (Nat.not_lt_zero _))
  rw [show ((0 : Nat) : Int) = 0 from rfl] at hd
  generalize hK2 : K + i + 1 = K2 at *
  simp only [spec_l06Faults.l0]
  rw [if_pos (by omega),if_pos (by omega),in_eq,in_eq,in_eq]
  simp only [Option.bind_some,spec_l06Faults.j1]
  unfold badF at hst hgo
  generalize hf : rd_T144 l (i : Int) = f at *
  rw [w64 (n := f.f0) (by omega) (by omega),w64 (n := f.f1) (by omega) (by omega),w64 (n := f.f2) (by omega) (by omega),w64 (n := (line.length : Int) - 1) (by omega) (by omega),w64 (n := (h.length : Int) - 1) (by omega) (by omega)]
  unfold faultOk at hst hgo
  by_cases c1 : 1 ≤ f.f0 ∧ f.f0 ≤ (line.length : Int) - 1
  ·rw [decide_eq_true c1,Bool.true_and] at hst hgo
   rw [if_pos (by simp [c1])]
   by_cases c2 : 0 ≤ f.f1 ∧ f.f1 ≤ (h.length : Int) - 1
   ·rw [decide_eq_true c2,Bool.true_and] at hst hgo
    rw [if_pos (by simp [c2])]
    by_cases c3 : 0 ≤ f.f2 ∧ f.f2 ≤ 39
    ·rw [decide_eq_true c3,Bool.true_and] at hst hgo
     rw [if_pos (by simp [c3]),if_pos c2.1,if_pos (by omega)]
     by_cases c4 : rd h f.f1 < 0
     ·rw [decide_eq_true c4,if_pos rfl,hst (by rw [decide_eq_false (p := 0 ≤ rd h f.f1) (by omega),Bool.not_false,Bool.or_true])]
     ·rw [decide_eq_true (p := 0 ≤ rd h f.f1) (by omega),Bool.not_true,Bool.or_false] at hst hgo
      rw [decide_eq_false c4,if_neg (by simp),hd]
      cases hdu : dupF l i with
      | true =>
       rw [if_pos rfl,hst hdu]
      | false =>
       rw [if_neg (by simp)]
       exact hgo hdu
    ·rw [if_neg (by simpa using c3),if_pos trivial,hst (by rw [decide_eq_false c3,Bool.false_and,Bool.not_false,Bool.or_true])]
   ·rw [if_neg (by simpa using c2),if_pos trivial,hst (by rw [decide_eq_false c2,Bool.false_and,Bool.not_false,Bool.or_true])]
  ·rw [if_neg (by simpa using c1),if_pos trivial,hst (by rw [decide_eq_false c1,Bool.false_and,Bool.not_false,Bool.or_true])]
theorem specAre {k : Nat} {line : List Sp} {h : List Int} {l : List Ft} (hw : wfF l) (hn : line.length ≤ 1048576) (hh : h.length ≤ 1048576) (hk : 1000 < k) : spec_l06Faults.f k line h l = some (faultsOk line.length h l) := by
 unfold spec_l06Faults.f
 by_cases hl : l.length ≤ 20
 ·rw [if_neg (by omega)]
  exact specAre_all hw hn hh hl l.length 0 k (by omega) (fun j hj => absurd hj (Nat.not_lt_zero _)) (by omega)
 ·rw [if_pos (by omega)]
  unfold faultsOk
  rw [decide_eq_false hl]
  rfl
def codeF (line : List Sp) (h : List Int) (l : List Ft) : Int := if validB line = true ∧ (meanO h).isSome = true ∧ faultsOk line.length h l = true then 0 else 1
theorem implCodeF {k : Nat} {line : List Sp} {h : List Int} {l : List Ft} (hwh : wfH h) (hw : wfF l) (hn : line.length ≤ 1048576) (hh : h.length ≤ 1048576) (hl : l.length ≤ 1048576) (hk : 2200001 < k) : impl_lineCode.f k line h l = some (codeF line h l) := by
 unfold impl_lineCode.f codeF
 rw [implValid_eq,implValidH hwh hh (by omega),implAre hw hn hh hl (by omega)]
 simp only [Option.bind_some]
 cases validB line <;> cases (meanO h).isSome <;> cases faultsOk line.length h l <;> simp [impl_unless.f]
theorem specCodeF {k : Nat} {line : List Sp} {h : List Int} {l : List Ft} (hws : ∀ x ∈ line,wfShip x) (hwh : wfH h) (hw : wfF l) (hn : line.length ≤ 1048576) (hh : h.length ≤ 1048576) (hk : 2200001 < k) : spec_l06Given.f k line h l = some (codeF line h l) := by
 unfold spec_l06Given.f codeF
 rw [specOk_eq k line hws hn (by omega),specOkH hwh (by omega),specAre hw hn hh (by omega)]
 simp only [Option.bind_some]
 cases validB line <;> cases (meanO h).isSome <;> cases faultsOk line.length h l <;> simp
def layF (i : Nat) (own : List Int) (f : Ft) : List Int := if f.f0 = (i : Int) then own.set f.f1.toNat f.f2 else own
def rbGo (h : List Int) (l : List Ft) (ts : List Tm) : Nat → Hs
 | 0 => []
 | n + 1 => rbGo h l ts n ++ [if n = 0 then h else if 0 ≤ (rd_T106 ts (n : Int)).f0 then l.foldl (layF n) (rd_L2 (rbGo h l ts n) (rd_T106 ts (n : Int)).f0) else []]
theorem rbGo_len (h : List Int) (l : List Ft) (ts : List Tm) : ∀ n,(rbGo h l ts n).length = n := by
 intro n
 induction n with
 | zero => rfl
 | succ n ih => rw [rbGo,List.length_append,ih];rfl
theorem layF_len (i : Nat) (l : List Ft) : ∀ own : List Int,(l.foldl (layF i) own).length = own.length := by
 induction l with
 | nil => intro own;rfl
 | cons f l ih =>
  intro own
  rw [List.foldl_cons,ih]
  unfold layF
  split <;> simp
def reachT (ts : List Tm) (j : Nat) : Prop := j = 0 ∨ 0 ≤ (rd_T106 ts (j : Int)).f0
theorem reach_from {ts : List Tm} (hok : TimesOK ts) {n : Nat} (hn : n < ts.length) (h0 : 0 ≤ (rd_T106 ts (n : Int)).f0) : ∃ m : Nat,(rd_T106 ts (n : Int)).f0 = (m : Int) ∧ m < n ∧ reachT ts m := by
 rw [rd_impl_Times hn] at h0 ⊢
 have hnp : 0 < n := by
  rcases Nat.eq_zero_or_pos n with e | e
  ·subst e
   have := hok.first _ (List.getElem?_eq_getElem hn)
   omega
  ·exact e
 rcases hok.later n _ (List.getElem?_eq_getElem hn) hnp with e | ⟨h1,h2,h3,u,hu,hu2⟩
 ·rw [e] at h0
  simp only at h0
  omega
 ·refine ⟨ts[n].f0.toNat,by omega,by omega,?_⟩
  have hlt := (List.getElem?_eq_some_iff.1 hu).1
  rcases Nat.eq_zero_or_pos ts[n].f0.toNat with e | e
  ·exact .inl e
  ·right
   rw [rd_impl_Times hlt]
   rcases hok.later _ u hu e with e2 | e2
   ·rw [e2] at hu2
    simp only at hu2
    omega
   ·rw [(List.getElem?_eq_some_iff.1 hu).2]
    exact e2.1
theorem rbGo_get {h : List Int} {l : List Ft} {ts : List Tm} {j : Nat} : ∀ n,j < n → rd_L2 (rbGo h l ts n) (j : Int) = rd_L2 (rbGo h l ts (j + 1)) (j : Int) := by
 intro n
 induction n with
 | zero => intro h;omega
 | succ n ih =>
  intro hj
  rcases Nat.lt_succ_iff_lt_or_eq.1 hj with e | e
  ·rw [← ih e]
   rw [rdH (by rw [rbGo_len];omega),rdH (by rw [rbGo_len];omega)]
   simp only [rbGo]
   rw [List.getElem_append_left]
  ·subst e
   rfl
theorem rb_ok {h : List Int} {l : List Ft} {ts : List Tm} (hok : TimesOK ts) (hwh : wfH h) (hwf : wfF l) : ∀ n,n ≤ ts.length → ∀ j,j < n → wfH (rd_L2 (rbGo h l ts n) (j : Int)) ∧ (rd_L2 (rbGo h l ts n) (j : Int)).length ≤ h.length ∧ (reachT ts j → (rd_L2 (rbGo h l ts n) (j : Int)).length = h.length) := by
 intro n
 induction n with
 | zero => intro _ j hj;omega
 | succ n ih =>
  intro hn j hj
  rcases Nat.lt_succ_iff_lt_or_eq.1 hj with e | e
  ·have := ih (by omega) j e
   rw [rbGo_get n e] at this
   rw [rbGo_get (n + 1) hj]
   exact this
  ·subst e
   rw [rdH (by rw [rbGo_len];omega)]
   simp only [rbGo]
   rw [List.getElem_append_right (by rw [rbGo_len];omega)]
   simp only [rbGo_len,Nat.sub_self,List.getElem_cons_zero]
   by_cases h0 : j = 0
   ·rw [if_pos h0]
    exact ⟨hwh,Nat.le_refl _,fun _ => rfl⟩
   ·rw [if_neg h0]
    by_cases h1 : 0 ≤ (rd_T106 ts (j : Int)).f0
    ·rw [if_pos h1,layF_len]
     obtain ⟨m,hm,hmj,hr⟩ := reach_from hok (by omega : j < ts.length) h1
     rw [hm]
     obtain ⟨w,le,eq⟩ := ih (by omega) m hmj
     refine ⟨?_,le,fun _ => eq hr⟩
     generalize rd_L2 (rbGo h l ts j) (m : Int) = own at w
     clear hm hr le eq ih h0 h1 hj hn
     induction l generalizing own with
     | nil => exact w
     | cons f l ih2 =>
      rw [List.foldl_cons]
      refine ih2 (fun x hx => hwf x (by simp [hx])) _ ?_
      unfold layF
      split
      ·intro x hx
       rcases List.mem_or_eq_of_mem_set hx with h | h
       ·exact w x h
       ·rw [h]
        exact (hwf f (by simp)).2.2
      ·exact w
    ·rw [if_neg h1]
     exact ⟨fun x hx => by simp at hx,by simp,fun hr => hr.elim (fun e => absurd e h0) (fun e => absurd e h1)⟩
def fitF (h : List Int) (l : List Ft) : Prop := ∀ f ∈ l,0 ≤ f.f1 ∧ f.f1 < (h.length : Int)
theorem fit_of {n : Nat} {h : List Int} {l : List Ft} (hf : faultsOk n h l = true) : fitF h l ∧ l.length ≤ 20 := by
 unfold faultsOk at hf
 simp only [Bool.and_eq_true,decide_eq_true_eq] at hf
 refine ⟨fun f hfm => ?_,hf.1⟩
 obtain ⟨i,hi,rfl⟩ := List.mem_iff_getElem.1 hfm
 have := List.all_eq_true.1 hf.2 i (List.mem_range.2 hi)
 unfold badF at this
 rw [rd_impl_Fault hi] at this
 simp only [faultOk,Bool.not_or,Bool.not_not,Bool.and_eq_true,decide_eq_true_eq] at this
 omega
theorem implLay {h : List Int} {l : List Ft} {ts : List Tm} {out : Hs} (hwf : wfF l) (hfit : fitF h l) (hl : l.length ≤ 20) (hout : out.length ≤ 20) {i : Nat} (hi20 : i ≤ 20) (K : Nat) : ∀ d j (own : List Int),j + d = l.length → own.length = h.length →
  impl_readBy.l1 (K + d + 1) h l out (i : Int) own ts (ts.length : Int) (i : Int) l (l.length : Int) (j : Int) = impl_readBy.l0 K h l (out ++ [(l.drop j).foldl (layF i) own]) ts (ts.length : Int) ((i : Int) + 1) := by
 intro d
 induction d with
 | zero =>
  intro j own hj ho
  obtain rfl : j = l.length := by omega
  simp only [impl_readBy.l1,Nat.add_zero]
  rw [if_neg (by omega),if_pos (by omega),List.drop_of_length_le (Nat.le_refl _),w64 (by omega) (by omega)]
  rfl
 | succ d ih =>
  intro j own hj ho
  have hjl : j < l.length := by omega
  have hwb := wfF_at hwf hjl
  have hfb := hfit _ (List.getElem_mem hjl)
  rw [show K + (d + 1) + 1 = (K + d + 1) + 1 by omega,List.drop_eq_getElem_cons hjl,List.foldl_cons]
  have e := ih (j + 1) (layF i own l[j]) (by omega) (by unfold layF;split <;> simp [ho])
  rw [← e]
  generalize K + d + 1 = K1
  simp only [impl_readBy.l1]
  rw [if_pos (by omega),if_pos (by omega),if_pos (by omega),w64 (by omega) (by omega),w64 (by omega) (by omega)]
  rw [rd_impl_Fault hjl] at hwb ⊢
  rw [show ((j + 1 : Nat) : Int) = (j : Int) + 1 by omega]
  unfold layF
  by_cases hs : l[j].f0 = (i : Int)
  ·rw [if_pos hs,if_pos hfb.1,if_pos (by omega),if_pos hs]
  ·rw [if_neg hs,if_neg hs]
theorem specLay {h : List Int} {l : List Ft} {ts : List Tm} {out : Hs} (hwf : wfF l) (hfit : fitF h l) (hl : l.length ≤ 20) (hout : out.length ≤ 20) {i : Nat} (hi20 : i ≤ 20) (K : Nat) : ∀ d j (own : List Int),j + d = l.length → own.length = h.length →
  spec_l06Read.l1 (K + d + 1) l ts out (i : Int) own (j : Int) = spec_l06Read.l0 K l ts (out ++ [(l.drop j).foldl (layF i) own]) ((i : Int) + 1) := by
 intro d
 induction d with
 | zero =>
  intro j own hj ho
  obtain rfl : j = l.length := by omega
  simp only [spec_l06Read.l1,Nat.add_zero]
  rw [if_neg (by omega),if_pos (by omega),List.drop_of_length_le (Nat.le_refl _),w64 (by omega) (by omega)]
  rfl
 | succ d ih =>
  intro j own hj ho
  have hjl : j < l.length := by omega
  have hwb := wfF_at hwf hjl
  have hfb := hfit _ (List.getElem_mem hjl)
  rw [show K + (d + 1) + 1 = (K + d + 1) + 1 by omega,List.drop_eq_getElem_cons hjl,List.foldl_cons]
  have e := ih (j + 1) (layF i own l[j]) (by omega) (by unfold layF;split <;> simp [ho])
  rw [← e]
  generalize K + d + 1 = K1
  simp only [spec_l06Read.l1]
  rw [if_pos (by omega),if_pos (by omega),w64 (by omega) (by omega),w64 (by omega) (by omega)]
  rw [rd_impl_Fault hjl] at hwb ⊢
  rw [show ((j + 1 : Nat) : Int) = (j : Int) + 1 by omega]
  unfold layF
  by_cases hs : l[j].f0 = (i : Int)
  ·rw [if_pos hs,if_pos hfb.1,if_pos (by omega),if_pos hs]
  ·rw [if_neg hs,if_neg hs]
theorem implRead_all {h : List Int} {l : List Ft} {ts : List Tm} (hok : TimesOK ts) (hwh : wfH h) (hwf : wfF l) (hfit : fitF h l) (hl : l.length ≤ 20) (hts : ts.length ≤ 20) (hh : h.length ≤ 1048576) : ∀ d i K,i + d = ts.length → d * 22 + 1 ≤ K → impl_readBy.l0 K h l (rbGo h l ts i) ts (ts.length : Int) (i : Int) = some (rbGo h l ts ts.length) := by
 intro d
 induction d with
 | zero =>
  intro i K hi hK
  obtain ⟨K,rfl⟩ : ∃ m,K = m + 1 := ⟨K - 1,by omega⟩
  obtain rfl : i = ts.length := by omega
  simp only [impl_readBy.l0]
  rw [if_neg (by omega)]
 | succ d ih =>
  intro i K hi hK
  have hil : i < ts.length := by omega
  have hlen := rbGo_len h l ts i
  simp only [Nat.succ_mul] at hK
  by_cases h0 : i = 0
  ·subst h0
   obtain ⟨K,rfl⟩ : ∃ m,K = m + 1 := ⟨K - 1,by omega⟩
   have e := ih 1 K (by omega) (by omega)
   rw [rbGo,if_pos rfl,show ((1 : Nat) : Int) = 0 + 1 from rfl] at e
   rw [show ((0 : Nat) : Int) = 0 from rfl]
   simp only [impl_readBy.l0]
   rw [if_pos (by omega),if_pos (by omega),if_pos (by omega),if_pos trivial,slices_Clone_Hoist_int8.f,if_pos (by omega)]
   simp only [Option.bind_some]
   rw [if_pos (by omega),w64 (by omega) (by omega)]
   exact e
  ·by_cases h1 : 0 ≤ (rd_T106 ts (i : Int)).f0
   ·obtain ⟨m,hm,hmi,hr⟩ := reach_from hok hil h1
    obtain ⟨w,le,eq⟩ := rb_ok hok hwh hwf i (by omega) m hmi
    obtain ⟨K,rfl⟩ : ∃ q,K = (q + l.length + 1) + 1 := ⟨K - l.length - 2,by omega⟩
    have e := ih (i + 1) K (by omega) (by omega)
    rw [rbGo,if_neg h0,if_pos h1,hm,show ((i + 1 : Nat) : Int) = (i : Int) + 1 by omega] at e
    have e2 := implLay (ts := ts) (out := rbGo h l ts i) (h := h) hwf hfit hl (by omega) (by omega : i ≤ 20) K l.length 0 (rd_L2 (rbGo h l ts i) (m : Int)) (by omega) (eq hr)
    rw [List.drop_zero] at e2
    rw [← e,← e2,show ((0 : Nat) : Int) = 0 from rfl]
    generalize K + l.length + 1 = K1
    simp only [impl_readBy.l0]
    rw [if_pos (by omega),if_pos (by omega),if_pos (by omega),if_neg (by omega),if_pos h1,if_pos h1,if_pos (by omega),hm,slices_Clone_Hoist_int8.f,if_pos (by omega)]
    rfl
   ·obtain ⟨K,rfl⟩ : ∃ m,K = m + 1 := ⟨K - 1,by omega⟩
    have e := ih (i + 1) K (by omega) (by omega)
    rw [rbGo,if_neg h0,if_neg h1,show ((i + 1 : Nat) : Int) = (i : Int) + 1 by omega] at e
    simp only [impl_readBy.l0]
    rw [if_pos (by omega),if_pos (by omega),if_pos (by omega),if_neg (by omega),if_neg h1,if_pos (by omega),w64 (by omega) (by omega)]
    exact e
theorem specRead_all {h : List Int} {l : List Ft} {ts : List Tm} (hok : TimesOK ts) (hwh : wfH h) (hwf : wfF l) (hfit : fitF h l) (hl : l.length ≤ 20) (hts : ts.length ≤ 20) (hh : h.length ≤ 1048576) : ∀ d i K,0 < i → i + d = ts.length → d * 22 + 1 ≤ K → spec_l06Read.l0 K l ts (rbGo h l ts i) (i : Int) = some (rbGo h l ts ts.length) := by
 intro d
 induction d with
 | zero =>
  intro i K hp hi hK
  obtain ⟨K,rfl⟩ : ∃ m,K = m + 1 := ⟨K - 1,by omega⟩
  obtain rfl : i = ts.length := by omega
  simp only [spec_l06Read.l0]
  rw [if_neg (by omega)]
 | succ d ih =>
  intro i K hp hi hK
  have hil : i < ts.length := by omega
  have hlen := rbGo_len h l ts i
  have h0 : i ≠ 0 := by omega
  simp only [Nat.succ_mul] at hK
  by_cases h1 : 0 ≤ (rd_T106 ts (i : Int)).f0
  ·obtain ⟨m,hm,hmi,hr⟩ := reach_from hok hil h1
   obtain ⟨w,le,eq⟩ := rb_ok hok hwh hwf i (by omega) m hmi
   obtain ⟨K,rfl⟩ : ∃ q,K = (q + l.length + 1) + 1 := ⟨K - l.length - 2,by omega⟩
   have e := ih (i + 1) K (by omega) (by omega) (by omega)
   rw [rbGo,if_neg h0,if_pos h1,hm,show ((i + 1 : Nat) : Int) = (i : Int) + 1 by omega] at e
   have e2 := specLay (ts := ts) (out := rbGo h l ts i) (h := h) hwf hfit hl (by omega) (by omega : i ≤ 20) K l.length 0 (rd_L2 (rbGo h l ts i) (m : Int)) (by omega) (eq hr)
   rw [List.drop_zero] at e2
   rw [← e,← e2,show ((0 : Nat) : Int) = 0 from rfl]
   generalize K + l.length + 1 = K1
   simp only [spec_l06Read.l0]
   rw [if_pos (by omega)]
   simp only [Option.bind_some]
   rw [if_pos (by omega),if_pos h1,if_pos h1,if_pos (by omega),hm,if_pos (by simp only [List.length_nil];omega),List.nil_append]
  ·obtain ⟨K,rfl⟩ : ∃ m,K = m + 1 := ⟨K - 1,by omega⟩
   have e := ih (i + 1) K (by omega) (by omega) (by omega)
   rw [rbGo,if_neg h0,if_neg h1,show ((i + 1 : Nat) : Int) = (i : Int) + 1 by omega] at e
   simp only [spec_l06Read.l0]
   rw [if_pos (by omega)]
   simp only [Option.bind_some]
   rw [if_pos (by omega),if_neg h1,if_pos (by omega),w64 (by omega) (by omega)]
   exact e
def readL (line : List Sp) (h : List Int) (l : List Ft) : Hs := rbGo h l (timesL (-1) 0 line) line.length
theorem implReadL {k : Nat} {line : List Sp} {h : List Int} {l : List Ft} (v : ValidL line) (hwh : wfH h) (hwf : wfF l) (hf : faultsOk line.length h l = true) (hh : h.length ≤ 1048576) (hk : 1000 < k) : impl_readBy.f k line h l = some (readL line h l) := by
 obtain ⟨hfit,hl⟩ := fit_of hf
 unfold impl_readBy.f
 rw [v.implTimes (by omega)]
 simp only [Option.bind_some]
 have ht := timesL_len (-1) 0 line
 have := v.most
 have e := implRead_all v.timesOK hwh hwf hfit hl (by omega) hh line.length 0 k (by omega) (by omega)
 rw [ht] at e ⊢
 exact e
theorem specReadL {k : Nat} {line : List Sp} {h : List Int} {l : List Ft} (v : ValidL line) (hwh : wfH h) (hwf : wfF l) (hf : faultsOk line.length h l = true) (hh : h.length ≤ 1048576) (hk : 1000 < k) : spec_l06Read.f k line h l = some (readL line h l) := by
 obtain ⟨hfit,hl⟩ := fit_of hf
 unfold spec_l06Read.f
 rw [v.specTimes (by omega)]
 simp only [Option.bind_some]
 have ht := timesL_len (-1) 0 line
 have := v.most
 have := v.pos
 rw [if_pos (by simp only [List.length_nil];omega),List.nil_append]
 have e := specRead_all v.timesOK hwh hwf hfit hl (by omega) hh (line.length - 1) 1 k (by omega) (by omega) (by omega)
 rw [ht] at e
 exact e
theorem readL_len {line : List Sp} {h : List Int} {l : List Ft} : (readL line h l).length = line.length := rbGo_len _ _ _ _
theorem readL_at {line : List Sp} {h : List Int} {l : List Ft} (v : ValidL line) (hwh : wfH h) (hwf : wfF l) {j : Nat} (hj : j < line.length) : wfH (rd_L2 (readL line h l) (j : Int)) ∧ (rd_L2 (readL line h l) (j : Int)).length ≤ h.length := by
 have := rb_ok v.timesOK hwh hwf line.length (by rw [timesL_len];exact Nat.le_refl _) j hj
 exact ⟨this.1,this.2.1⟩
end Go.Proofs.Ytheenidapjkboaa.G.Pure
end

section
namespace Go.Proofs.Ytheenidapjkboaa.G.Pure
open Go.RowKit Go.Proofs.Ytheenidapjkboaa.G Go.Proofs.YtheenidapjkboaaW.PrintWords Go.Proofs.YtheenidapjkboaaW.PrintLast Go.Proofs.YtheenidapjkboaaW.PrintMore
set_option linter.unusedVariables false
set_option linter.unusedSimpArgs false
def ntStep (read : Hs) (ts : List Tm) (s : Int) (i : Nat) : Int :=
 if 0 ≤ (rd_T106 ts (i : Int)).f0 then (if rd_L2 read (i : Int) = rd_L2 read (rd_T106 ts (i : Int)).f0 then s else if s < 0 then (rd_T106 ts (i : Int)).f3 else if (rd_T106 ts (i : Int)).f3 < s then (rd_T106 ts (i : Int)).f3 else s) else s
def ntTo (read : Hs) (ts : List Tm) : Nat → Int
 | 0 => -1
 | n + 1 => ntStep read ts (ntTo read ts n) n
def ntEnd (s : Int) : Int × Int := if s < 0 then (0,6) else (s,0)
theorem implNoticed_all {read : Hs} {ts : List Tm} (hok : TimesOK ts) (hr : read.length = ts.length) (hl : ts.length ≤ 20) (hi : ∀ x ∈ read,x.length ≤ 1048576) : ∀ d i K,i + d = ts.length → d + 1048578 ≤ K → impl_NoticedAt.l0 K read (ntTo read ts i) ts (ts.length : Int) (i : Int) = some (ntEnd (ntTo read ts ts.length)) := by
 intro d
 induction d with
 | zero =>
  intro i K hd hK
  obtain ⟨K,rfl⟩ : ∃ m,K = m + 1 := ⟨K - 1,by omega⟩
  obtain rfl : i = ts.length := by omega
  simp only [impl_NoticedAt.l0]
  rw [if_neg (by omega)]
  unfold ntEnd
  split <;> rfl
 | succ d ih =>
  intro i K hd hK
  obtain ⟨K,rfl⟩ : ∃ m,K = m + 1 := ⟨K - 1,by omega⟩
  have hil : i < ts.length := by omega
  have hf := times_from hok hil
  have hL := rdH_len hi (i : Int)
  have e := ih (i + 1) K (by omega) (by omega)
  rw [show ((i + 1 : Nat) : Int) = (i : Int) + 1 by omega,ntTo] at e
  unfold ntStep at e
  simp only [impl_NoticedAt.l0]
  rw [if_pos (by omega),if_pos (by omega),if_pos (by omega),w64 (by omega) (by omega)]
  generalize rd_T106 ts (i : Int) = t at *
  by_cases h0 : 0 ≤ t.f0
  ·rw [if_pos h0] at e
   rw [if_pos (show t.f0 ≥ 0 from h0),if_pos (by omega),if_pos h0,if_pos (by omega),implEqH hL (by omega)]
   simp only [Option.bind_some]
   by_cases he : rd_L2 read (i : Int) = rd_L2 read t.f0
   ·rw [if_pos he] at e
    rw [decide_eq_true he,if_pos rfl]
    exact e
   ·rw [if_neg he] at e
    rw [decide_eq_false he,if_neg (by simp)]
    by_cases h1 : ntTo read ts i < 0
    ·rw [if_pos h1] at e
     rw [if_pos h1]
     exact e
    ·rw [if_neg h1] at e
     rw [if_neg h1]
     by_cases h2 : t.f3 < ntTo read ts i
     ·rw [if_pos h2] at e
      rw [if_pos h2]
      exact e
     ·rw [if_neg h2] at e
      rw [if_neg h2]
      exact e
  ·rw [if_neg h0] at e
   rw [if_neg (by omega)]
   exact e
theorem specNoticed_all {read : Hs} {ts : List Tm} (hok : TimesOK ts) (hr : read.length = ts.length) (hl : ts.length ≤ 20) (hi : ∀ x ∈ read,x.length ≤ 1048576) : ∀ d i K,i + d = ts.length → d + 1048578 ≤ K → spec_NoticedAt.l0 K ts read (ntTo read ts i) (i : Int) = some (ntEnd (ntTo read ts ts.length)) := by
 intro d
 induction d with
 | zero =>
  intro i K hd hK
  obtain ⟨K,rfl⟩ : ∃ m,K = m + 1 := ⟨K - 1,by omega⟩
  obtain rfl : i = ts.length := by omega
  simp only [spec_NoticedAt.l0]
  rw [if_neg (by omega)]
  unfold ntEnd
  split <;> rfl
 | succ d ih =>
  intro i K hd hK
  obtain ⟨K,rfl⟩ : ∃ m,K = m + 1 := ⟨K - 1,by omega⟩
  have hil : i < ts.length := by omega
  have hf := times_from hok hil
  have hL := rdH_len hi (i : Int)
  have e := ih (i + 1) K (by omega) (by omega)
  rw [show ((i + 1 : Nat) : Int) = (i : Int) + 1 by omega,ntTo] at e
  unfold ntStep at e
  simp only [spec_NoticedAt.l0]
  rw [if_pos (by omega),if_pos (by omega),w64 (by omega) (by omega)]
  generalize rd_T106 ts (i : Int) = t at *
  by_cases h0 : 0 ≤ t.f0
  ·rw [if_pos h0] at e
   rw [if_pos (show t.f0 ≥ 0 from h0),if_pos (by omega),if_pos h0,if_pos (by omega),specEqH hL (by omega)]
   simp only [Option.bind_some]
   by_cases he : rd_L2 read (i : Int) = rd_L2 read t.f0
   ·rw [if_pos he] at e
    rw [decide_eq_true he,if_pos rfl]
    exact e
   ·rw [if_neg he] at e
    rw [decide_eq_false he,if_neg (by simp)]
    by_cases h1 : ntTo read ts i < 0
    ·rw [if_pos h1] at e
     rw [if_pos h1]
     exact e
    ·rw [if_neg h1] at e
     rw [if_neg h1]
     by_cases h2 : t.f3 < ntTo read ts i
     ·rw [if_pos h2] at e
      rw [if_pos h2]
      exact e
     ·rw [if_neg h2] at e
      rw [if_neg h2]
      exact e
  ·rw [if_neg h0] at e
   rw [if_neg (by omega)]
   exact e
theorem readL_small {line : List Sp} {h : List Int} {l : List Ft} (v : ValidL line) (hwh : wfH h) (hwf : wfF l) (hh : h.length ≤ 1048576) : ∀ x ∈ readL line h l,x.length ≤ 1048576 := by
 intro x hx
 obtain ⟨j,hj,rfl⟩ := List.mem_iff_getElem.1 hx
 rw [readL_len] at hj
 have := (readL_at v hwh hwf hj).2
 rw [rdH (by rw [readL_len];exact hj)] at this
 omega
theorem code_ok {line : List Sp} {h : List Int} {l : List Ft} : codeF line h l = 0 ↔ validB line = true ∧ (meanO h).isSome = true ∧ faultsOk line.length h l = true := by
 unfold codeF
 split
 ·rename_i hh
  exact ⟨fun _ => hh,fun _ => rfl⟩
 ·rename_i hh
  exact ⟨fun he => by omega,fun he => absurd he hh⟩
def resNoticed (line : List Sp) (h : List Int) (l : List Ft) : Int × Int := if codeF line h l = 0 then ntEnd (ntTo (readL line h l) (timesL (-1) 0 line) line.length) else (0,codeF line h l)
theorem implNoticed_eq {k : Nat} {line : List Sp} {h : List Int} {l : List Ft} (hws : ∀ x ∈ line,wfShip x) (hwh : wfH h) (hw : wfF l) (hn : line.length ≤ 1048576) (hh : h.length ≤ 1048576) (hl : l.length ≤ 1048576) (hk : 2200001 < k) : impl_NoticedAt.f k line h l = some (resNoticed line h l) := by
 unfold impl_NoticedAt.f resNoticed
 rw [implCodeF hwh hw hn hh hl hk]
 simp only [Option.bind_some]
 by_cases hc : codeF line h l = 0
 ·rw [if_pos hc,if_pos hc]
  obtain ⟨hv,hm,hf⟩ := code_ok.1 hc
  have v := (validB_iff hws).1 hv
  rw [implReadL v hwh hw hf hh (by omega)]
  simp only [Option.bind_some]
  rw [v.implTimes (by omega)]
  simp only [Option.bind_some]
  have ht := timesL_len (-1) 0 line
  have := v.most
  have e := implNoticed_all v.timesOK (read := readL line h l) (by rw [readL_len,ht]) (by omega) (readL_small v hwh hw hh) line.length 0 k (by omega) (by omega)
  rw [ht] at e ⊢
  exact e
 ·rw [if_neg hc,if_neg hc]
theorem specNoticed_eq {k : Nat} {line : List Sp} {h : List Int} {l : List Ft} (hws : ∀ x ∈ line,wfShip x) (hwh : wfH h) (hw : wfF l) (hn : line.length ≤ 1048576) (hh : h.length ≤ 1048576) (hk : 2200001 < k) : spec_NoticedAt.f k line h l = some (resNoticed line h l) := by
 unfold spec_NoticedAt.f resNoticed
 rw [specCodeF hws hwh hw hn hh hk]
 simp only [Option.bind_some]
 by_cases hc : codeF line h l = 0
 ·rw [if_pos hc,if_pos hc]
  obtain ⟨hv,hm,hf⟩ := code_ok.1 hc
  have v := (validB_iff hws).1 hv
  rw [v.specTimes (by omega)]
  simp only [Option.bind_some]
  rw [specReadL v hwh hw hf hh (by omega)]
  simp only [Option.bind_some]
  have ht := timesL_len (-1) 0 line
  have := v.most
  have := v.pos
  have e := specNoticed_all v.timesOK (read := readL line h l) (by rw [readL_len,ht]) (by omega) (readL_small v hwh hw hh) (line.length - 1) 1 k (by omega) (by omega)
  have h1 : ntTo (readL line h l) (timesL (-1) 0 line) 1 = -1 := by
   have hf0 := times_from v.timesOK (i := 0) (by omega)
   rw [ntTo,ntTo]
   unfold ntStep
   rw [if_neg (by omega)]
  rw [h1,ht] at e
  exact e
 ·rw [if_neg hc,if_neg hc]
end Go.Proofs.Ytheenidapjkboaa.G.Pure
end

section
namespace Go.Proofs.Ytheenidapjkboaa.G.Pure
open Go.RowKit Go.Proofs.Ytheenidapjkboaa.G Go.Proofs.YtheenidapjkboaaW.PrintWords Go.Proofs.YtheenidapjkboaaW.PrintLast Go.Proofs.YtheenidapjkboaaW.PrintMore
set_option linter.unusedVariables false
set_option linter.unusedSimpArgs false
theorem szShipS_big {l : List (S111)} (hl : l.length ≤ 9223372036854775807) (h : ¬ l.length ≤ 1048576) : laws_szShipS.f l 1048576 = some (-1) := by
 rw [szShipS_eq _ _ (by omega) (by omega) hl,if_pos (by omega)]
theorem szShipS_small {l : List (S111)} (h : l.length ≤ 1048576) : ∃ n,laws_szShipS.f l 1048576 = some n ∧ ¬ n < 0 ∧ n = 1048576 - (l.length : Int) := by
 refine ⟨1048576 - l.length,?_,by omega,rfl⟩
 rw [szShipS_eq _ _ (by omega) (by omega) (by omega),if_neg (by omega)]
end Go.Proofs.Ytheenidapjkboaa.G.Pure
end

section
namespace Go.Proofs.Ytheenidapjkboaa.G.Pure
open Go.RowKit Go.Proofs.Ytheenidapjkboaa.G Go.Proofs.YtheenidapjkboaaW.PrintWords Go.Proofs.YtheenidapjkboaaW.PrintLast Go.Proofs.YtheenidapjkboaaW.PrintMore
set_option linter.unusedVariables false
set_option linter.unusedSimpArgs false
theorem FnExactNoticedAt (l0 : List (S111)) (l1 : List Int) (l2 : List (S146)) (h00 : l0.length ≤ 9223372036854775807) (h01 : (∀ x ∈ l0,(Lit.int .i8 x.f0).wf = true ∧ (Lit.int .i8 x.f1).wf = true ∧ (Lit.int .i8 x.f2).wf = true)) (h10 : l1.length ≤ 9223372036854775807) (h11 : (∀ x ∈ l1,(Lit.int .i8 x).wf = true)) (h20 : l2.length ≤ 9223372036854775807) (h21 : (∀ x ∈ l2,(Lit.int .i8 x.f0).wf = true ∧ (Lit.int .i8 x.f1).wf = true ∧ (Lit.int .i8 x.f2).wf = true)) : ∃ k,laws_FnExactNoticedAt.f k l0 l1 l2 = some true := by
 obtain ⟨k,hk⟩ : ∃ k,3000000 < k := ⟨_,Nat.lt_succ_self _⟩
 refine ⟨k + 2,?_⟩
 unfold laws_FnExactNoticedAt.f
 by_cases hH : (l1.length : Int) > 1048576
 ·rw [if_pos hH]
 ·rw [if_neg hH]
  by_cases hL : l0.length ≤ 1048576
  ·obtain ⟨n,hn,hn0,hn1⟩ := szShipS_small hL
   rw [hn]
   simp only [Option.bind_some]
   rw [if_neg hn0,szFaultS_eq _ _ (by omega) (by omega) h20]
   simp only [Option.bind_some]
   by_cases hF : n - l2.length < 0
   ·rw [if_pos hF,if_pos (by omega)]
   ·rw [if_neg hF,if_neg hF]
    have hw := wf_map h01
    have hwf : wfF (l2.map faultOf) := wf_faults h21
    have hL' : (l0.map shipOf).length ≤ 1048576 := by simpa using hL
    have hF' : (l2.map faultOf).length ≤ 1048576 := by rw [List.length_map];omega
    have hH' : l1.length ≤ 1048576 := by omega
    have e1 := fun j => toShipS_eq (k + j) l0 hL (by omega)
    have e2 := fun j => toHoist_eq (k + j) l1 hH' (by omega)
    have e3 := fun j => toFaultS_eq (k + j) l2 (by omega) (by omega)
    have q1 := fun j => eqShipS_self (k + j) (l0.map shipOf) hL' (by omega)
    have q2 := fun j => eqHoist_self (k + j) l1 hH' (by omega)
    have q3 := fun j => eqFaultS_self (k + j) (l2.map faultOf) hF' (by omega)
    have s1 := fun j => specNoticed_eq (k := k + j) hw h11 hwf hL' hH' (by omega)
    have i1 := fun j => implNoticed_eq (k := k + j) hw h11 hwf hL' hH' hF' (by omega)
    generalize resNoticed (l0.map shipOf) l1 (l2.map faultOf) = res at *
    simp [laws_FnExactNoticedAt.j0,e1,e2,e3,q1,q2,q3,s1,i1]
  ·rw [szShipS_big h00 hL]
   rfl
end Go.Proofs.Ytheenidapjkboaa.G.Pure
end
