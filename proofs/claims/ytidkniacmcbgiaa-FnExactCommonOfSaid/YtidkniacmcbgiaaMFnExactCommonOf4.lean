/- The law's functions, their contracts, and the plain lemmas: texts of this claim, laid together. -/
import Derived.Deep.Slices
import Derived.Deep.Fields
import Derived.ChangeSame
import Derived.OpenShut
import Derived.Test.YtidkniacmcbgiaaMFnExactCommonOf0
import Derived.Test.YtidkniacmcbgiaaMFnExactCommonOf1
import Derived.Test.YtidkniacmcbgiaaMFnExactCommonOf2
import Derived.Test.YtidkniacmcbgiaaMFnExactCommonOf3
section
namespace Go.Proofs.Ytidkniacmcbgiaa.G
open Go.RowKit Go.Proofs.YtidkniacmcbgiaaW.PrintWords Go.Proofs.YtidkniacmcbgiaaW.PrintLast Go.Proofs.YtidkniacmcbgiaaW.PrintMore
attribute [local go_sem] max2_int min2_int max_two min_two max_three min_three max_four min_four
set_option linter.unusedVariables false
set_option linter.unusedSimpArgs false
mutual
def laws_FnExactCommonOf.j0 : Nat → List (S75) → List (S75) → List (S100) → Int → List (S73) → List (S73) → List (S100) → Int → Bool → Option (Bool)
 | 0,_,_,_,_,_,_,_,_,_ => none
 | k + 1,x0,x1,x6,x7,x8,x9,x10,x11,x53 => if x53 = true then (some false) else ((laws_toLog.f k x0).bind fun t124 => ((laws_eqLog.f k x8 t124).bind fun t127 => (if t127 = true then ((laws_toLog.f k x1).bind fun t128 => ((laws_eqLog.f k x9 t128).bind fun t131 => (if t131 = true then ((laws_markLog.f k x8 1).bind fun bt132 => ((laws_markLog.f k x9 bt132.1).bind fun bt134 => (if bt134.1 < 0 then (laws_FnExactCommonOf.j1 k x0 x1 x6 x7 x10 true) else ((laws_eqStepS.f k x10 x6).bind fun t136 => (if t136 = true then (laws_FnExactCommonOf.j1 k x0 x1 x6 x7 x10 (x11 != x7)) else (laws_FnExactCommonOf.j1 k x0 x1 x6 x7 x10 true)))))) else (some false)))) else (some false))))
def laws_FnExactCommonOf.j1 : Nat → List (S75) → List (S75) → List (S100) → Int → List (S100) → Bool → Option (Bool)
 | 0,_,_,_,_,_,_ => none
 | k + 1,x0,x1,x6,x7,x10,x82 => if x82 = true then (some false) else ((laws_markStepS.f k x10 1).bind fun bt137 => ((laws_heldStepS.f k bt137.2 1).bind fun t139 => (if t139 < 0 then (some false) else (if t139 = bt137.1 then ((laws_toLog.f k x0).bind fun t140 => ((laws_toLog.f k x1).bind fun t143 => ((impl_CommonOf.f k t140 t143).bind fun bt146 => ((laws_eqStepS.f k bt146.1 x6).bind fun t150 => (if t150 = true then (laws_FnExactCommonOf.j2 k bt137.2 bt137.1 (bt146.2 != x7)) else (laws_FnExactCommonOf.j2 k bt137.2 bt137.1 true)))))) else (some false)))))
def laws_FnExactCommonOf.j2 : Nat → List (S100) → Int → Bool → Option (Bool)
 | 0,_,_,_ => none
 | k + 1,x10,x13,x110 => if x110 = true then (some false) else ((laws_heldStepS.f k x10 1).bind fun t151 => (if t151 < 0 then (some false) else (if t151 = x13 then (some true) else (some false))))
end
def laws_FnExactCommonOf.f (k : Nat) (l0 : List (S75)) (l1 : List (S75)) : Option (Bool) := (laws_szLog.f l0 1048576).bind fun t101 => (if t101 < 0 then (some true) else ((laws_szLog.f l1 t101).bind fun t102 => (if t102 < 0 then (some true) else ((laws_toLog.f k l0).bind fun t103 => ((laws_toLog.f k l1).bind fun t106 => ((spec_CommonOf.f k t103 t106).bind fun bt109 => ((laws_toLog.f k l0).bind fun t113 => ((laws_toLog.f k l1).bind fun t116 => ((impl_CommonOf.f k t113 t116).bind fun bt119 => ((laws_eqStepS.f k bt119.1 bt109.1).bind fun t123 => (if t123 = true then (laws_FnExactCommonOf.j0 k l0 l1 bt109.1 bt109.2 t113 t116 bt119.1 bt119.2 (bt119.2 != bt109.2)) else (laws_FnExactCommonOf.j0 k l0 l1 bt109.1 bt109.2 t113 t116 bt119.1 bt119.2 true))))))))))))
set_option maxHeartbeats 8000000 in
set_option maxRecDepth 100000 in
theorem laws_FnExactCommonOf.calls (k : Nat) (A0 : Option Addr) (c0 : Nat) (l0 : List (S75)) (A1 : Option Addr) (c1 : Nat) (l1 : List (S75)) (r : Bool) (w : World) (hr0 : Kd.C k75 w A0 l0.length l0) (hc0 : l0.length ≤ c0) (hr1 : Kd.C k75 w A1 l1.length l1) (hc1 : l1.length ≤ c1) (h : laws_FnExactCommonOf.f k l0 l1 = some r) :
  Calls Try.prog 13 #[.slice A0 l0.length c0,.slice A1 l1.length c1] w fun e w' => e = .returned (.bool r) ∧ Below w.heap.size w w' := by
 have HR0 := Aside0.mk hr0;have HC0 := Aside0.mk hc0;clear hr0 hc0;have HR1 := Aside0.mk hr1;have HC1 := Aside0.mk hc1;clear hr1 hc1;have HB := Aside0.mk (Below.refl w.heap.size w);have H : ((laws_szLog.f l0 1048576).bind fun t101 => (if t101 < 0 then (some true) else ((laws_szLog.f l1 t101).bind fun t102 => (if t102 < 0 then (some true) else ((laws_toLog.f k l0).bind fun t103 => ((laws_toLog.f k l1).bind fun t106 => ((spec_CommonOf.f k t103 t106).bind fun bt109 => ((laws_toLog.f k l0).bind fun t113 => ((laws_toLog.f k l1).bind fun t116 => ((impl_CommonOf.f k t113 t116).bind fun bt119 => ((laws_eqStepS.f k bt119.1 bt109.1).bind fun t123 => (if t123 = true then (laws_FnExactCommonOf.j0 k l0 l1 bt109.1 bt109.2 t113 t116 bt119.1 bt119.2 (bt119.2 != bt109.2)) else (laws_FnExactCommonOf.j0 k l0 l1 bt109.1 bt109.2 t113 t116 bt119.1 bt119.2 true))))))))))))) = some r := h;clear h;replace H := Option.bind_eq_some_iff.mp H;obtain ⟨t101,A30,H⟩ := H;replace H : (if t101 < 0 then (some true) else ((laws_szLog.f l1 t101).bind fun t102 => (if t102 < 0 then (some true) else ((laws_toLog.f k l0).bind fun t103 => ((laws_toLog.f k l1).bind fun t106 => ((spec_CommonOf.f k t103 t106).bind fun bt109 => ((laws_toLog.f k l0).bind fun t113 => ((laws_toLog.f k l1).bind fun t116 => ((impl_CommonOf.f k t113 t116).bind fun bt119 => ((laws_eqStepS.f k bt119.1 bt109.1).bind fun t123 => (if t123 = true then (laws_FnExactCommonOf.j0 k l0 l1 bt109.1 bt109.2 t113 t116 bt119.1 bt119.2 (bt119.2 != bt109.2)) else (laws_FnExactCommonOf.j0 k l0 l1 bt109.1 bt109.2 t113 t116 bt119.1 bt119.2 true)))))))))))) = some r := H;have A3 := Aside0.mk A30;clear A30
 by_cases c4 : t101 < 0
 ·rw [if_pos c4] at H;have c4b0 : decide (t101 < 0) = true := decide_eq_true c4;clear c4;obtain rfl := Option.some.inj H
  go_enter Try.func13,Try.ntmps13
  go_wp2_with (first | ((with_reducible refine gate_callee (f := 19) rfl ?_);refine goesL_ (some 19) rfl rfl Try.func19 (by kernel_rfl) rfl #[.slice A0 l0.length c0,.int .i64 1048576] rfl (by (try simp only [List.map_toArray,List.map_cons,List.map_nil]);first | done | rfl | (simp only [List.length_drop,List.length_take];rfl)) ?_;(with_reducible refine (laws_szLog.calls _ _ l0 1048576 t101 _ ?side1 ?side2 A3.out).mono ?_);(case side1 => repeat (first | exact HR0.out | (with_reducible refine Kd.C_alloc ?_ _) | (with_reducible refine Kd.C_drewN ?_ _) | (with_reducible refine Kd.C_drew ?_)));(case side2 => exact HC0.out);rintro e w' ⟨rfl,⟨nd,rfl⟩⟩;refine ⟨_,rfl,?_⟩))
  go_ret
  exact ⟨by first | rfl | (simp [errW_none,errW_some,IntKind.wrap_i64,wrap64];done) | (simp [errW_none,errW_some] <;> rfl) | (simp [*,errW_none,errW_some] <;> rfl),by repeat (first | (with_reducible first | exact HB.out | apply below_alloc | apply pw_below_drewN | apply below_drew1) | exact HB.out)⟩
 ·rw [if_neg c4] at H;have c4b0 : decide (t101 < 0) = false := decide_eq_false c4;clear c4;replace H := Option.bind_eq_some_iff.mp H;obtain ⟨t102,A50,H⟩ := H;replace H : (if t102 < 0 then (some true) else ((laws_toLog.f k l0).bind fun t103 => ((laws_toLog.f k l1).bind fun t106 => ((spec_CommonOf.f k t103 t106).bind fun bt109 => ((laws_toLog.f k l0).bind fun t113 => ((laws_toLog.f k l1).bind fun t116 => ((impl_CommonOf.f k t113 t116).bind fun bt119 => ((laws_eqStepS.f k bt119.1 bt109.1).bind fun t123 => (if t123 = true then (laws_FnExactCommonOf.j0 k l0 l1 bt109.1 bt109.2 t113 t116 bt119.1 bt119.2 (bt119.2 != bt109.2)) else (laws_FnExactCommonOf.j0 k l0 l1 bt109.1 bt109.2 t113 t116 bt119.1 bt119.2 true)))))))))) = some r := H;have A5 := Aside0.mk A50;clear A50
  by_cases c6 : t102 < 0
  ·rw [if_pos c6] at H;have c6b0 : decide (t102 < 0) = true := decide_eq_true c6;clear c6;obtain rfl := Option.some.inj H
   go_enter Try.func13,Try.ntmps13
   go_wp2_with (first | ((with_reducible refine gate_callee (f := 19) rfl ?_);refine goesL_ (some 19) rfl rfl Try.func19 (by kernel_rfl) rfl #[.slice A0 l0.length c0,.int .i64 1048576] rfl (by (try simp only [List.map_toArray,List.map_cons,List.map_nil]);first | done | rfl | (simp only [List.length_drop,List.length_take];rfl)) ?_;(with_reducible refine (laws_szLog.calls _ _ l0 1048576 t101 _ ?side1 ?side2 A3.out).mono ?_);(case side1 => repeat (first | exact HR0.out | (with_reducible refine Kd.C_alloc ?_ _) | (with_reducible refine Kd.C_drewN ?_ _) | (with_reducible refine Kd.C_drew ?_)));(case side2 => exact HC0.out);rintro e w' ⟨rfl,⟨nd,rfl⟩⟩;refine ⟨_,rfl,?_⟩) | ((with_reducible refine gate_callee (f := 19) rfl ?_);refine goesL_ (some 24) rfl rfl Try.func19 (by kernel_rfl) rfl #[.slice A1 l1.length c1,.int .i64 t101] rfl (by (try simp only [List.map_toArray,List.map_cons,List.map_nil]);first | done | rfl | (simp only [List.length_drop,List.length_take];rfl)) ?_;(with_reducible refine (laws_szLog.calls _ _ l1 t101 t102 _ ?side1 ?side2 A5.out).mono ?_);(case side1 => repeat (first | exact HR1.out | (with_reducible refine Kd.C_alloc ?_ _) | (with_reducible refine Kd.C_drewN ?_ _) | (with_reducible refine Kd.C_drew ?_)));(case side2 => exact HC1.out);rintro e w' ⟨rfl,⟨nd,rfl⟩⟩;refine ⟨_,rfl,?_⟩))
   go_ret
   exact ⟨by first | rfl | (simp [errW_none,errW_some,IntKind.wrap_i64,wrap64];done) | (simp [errW_none,errW_some] <;> rfl) | (simp [*,errW_none,errW_some] <;> rfl),by repeat (first | (with_reducible first | exact HB.out | apply below_alloc | apply pw_below_drewN | apply below_drew1) | exact HB.out)⟩
  ·rw [if_neg c6] at H;have c6b0 : decide (t102 < 0) = false := decide_eq_false c6;clear c6;replace H := Option.bind_eq_some_iff.mp H;obtain ⟨t103,A70,H⟩ := H;replace H : ((laws_toLog.f k l1).bind fun t106 => ((spec_CommonOf.f k t103 t106).bind fun bt109 => ((laws_toLog.f k l0).bind fun t113 => ((laws_toLog.f k l1).bind fun t116 => ((impl_CommonOf.f k t113 t116).bind fun bt119 => ((laws_eqStepS.f k bt119.1 bt109.1).bind fun t123 => (if t123 = true then (laws_FnExactCommonOf.j0 k l0 l1 bt109.1 bt109.2 t113 t116 bt119.1 bt119.2 (bt119.2 != bt109.2)) else (laws_FnExactCommonOf.j0 k l0 l1 bt109.1 bt109.2 t113 t116 bt119.1 bt119.2 true)))))))) = some r := H;have A7 := Aside0.mk A70;clear A70;replace H := Option.bind_eq_some_iff.mp H;obtain ⟨t106,A80,H⟩ := H;replace H : ((spec_CommonOf.f k t103 t106).bind fun bt109 => ((laws_toLog.f k l0).bind fun t113 => ((laws_toLog.f k l1).bind fun t116 => ((impl_CommonOf.f k t113 t116).bind fun bt119 => ((laws_eqStepS.f k bt119.1 bt109.1).bind fun t123 => (if t123 = true then (laws_FnExactCommonOf.j0 k l0 l1 bt109.1 bt109.2 t113 t116 bt119.1 bt119.2 (bt119.2 != bt109.2)) else (laws_FnExactCommonOf.j0 k l0 l1 bt109.1 bt109.2 t113 t116 bt119.1 bt119.2 true))))))) = some r := H;have A8 := Aside0.mk A80;clear A80;replace H := Option.bind_eq_some_iff.mp H;obtain ⟨⟨t109,t110⟩,A90,H⟩ := H;replace H : ((laws_toLog.f k l0).bind fun t113 => ((laws_toLog.f k l1).bind fun t116 => ((impl_CommonOf.f k t113 t116).bind fun bt119 => ((laws_eqStepS.f k bt119.1 t109).bind fun t123 => (if t123 = true then (laws_FnExactCommonOf.j0 k l0 l1 t109 t110 t113 t116 bt119.1 bt119.2 (bt119.2 != t110)) else (laws_FnExactCommonOf.j0 k l0 l1 t109 t110 t113 t116 bt119.1 bt119.2 true)))))) = some r := H;have A9 := Aside0.mk A90;clear A90;replace H := Option.bind_eq_some_iff.mp H;obtain ⟨t113,A100,H⟩ := H;replace H : ((laws_toLog.f k l1).bind fun t116 => ((impl_CommonOf.f k t113 t116).bind fun bt119 => ((laws_eqStepS.f k bt119.1 t109).bind fun t123 => (if t123 = true then (laws_FnExactCommonOf.j0 k l0 l1 t109 t110 t113 t116 bt119.1 bt119.2 (bt119.2 != t110)) else (laws_FnExactCommonOf.j0 k l0 l1 t109 t110 t113 t116 bt119.1 bt119.2 true))))) = some r := H;have A10 := Aside0.mk A100;clear A100;replace H := Option.bind_eq_some_iff.mp H;obtain ⟨t116,A110,H⟩ := H;replace H : ((impl_CommonOf.f k t113 t116).bind fun bt119 => ((laws_eqStepS.f k bt119.1 t109).bind fun t123 => (if t123 = true then (laws_FnExactCommonOf.j0 k l0 l1 t109 t110 t113 t116 bt119.1 bt119.2 (bt119.2 != t110)) else (laws_FnExactCommonOf.j0 k l0 l1 t109 t110 t113 t116 bt119.1 bt119.2 true)))) = some r := H;have A11 := Aside0.mk A110;clear A110;replace H := Option.bind_eq_some_iff.mp H;obtain ⟨⟨t119,t120⟩,A120,H⟩ := H;replace H : ((laws_eqStepS.f k t119 t109).bind fun t123 => (if t123 = true then (laws_FnExactCommonOf.j0 k l0 l1 t109 t110 t113 t116 t119 t120 (t120 != t110)) else (laws_FnExactCommonOf.j0 k l0 l1 t109 t110 t113 t116 t119 t120 true))) = some r := H;have A12 := Aside0.mk A120;clear A120;have HC13 := Aside0.mk H;clear H
   go_enter Try.func13,Try.ntmps13
   go_upto_region 12 with (first | ((with_reducible refine gate_callee (f := 19) rfl ?_);refine goesL_ (some 19) rfl rfl Try.func19 (by kernel_rfl) rfl #[.slice A0 l0.length c0,.int .i64 1048576] rfl (by (try simp only [List.map_toArray,List.map_cons,List.map_nil]);first | done | rfl | (simp only [List.length_drop,List.length_take];rfl)) ?_;(with_reducible refine (laws_szLog.calls _ _ l0 1048576 t101 _ ?side1 ?side2 A3.out).mono ?_);(case side1 => repeat (first | exact HR0.out | (with_reducible refine Kd.C_alloc ?_ _) | (with_reducible refine Kd.C_drewN ?_ _) | (with_reducible refine Kd.C_drew ?_)));(case side2 => exact HC0.out);rintro e w' ⟨rfl,⟨nd,rfl⟩⟩;refine ⟨_,rfl,?_⟩) | ((with_reducible refine gate_callee (f := 19) rfl ?_);refine goesL_ (some 24) rfl rfl Try.func19 (by kernel_rfl) rfl #[.slice A1 l1.length c1,.int .i64 t101] rfl (by (try simp only [List.map_toArray,List.map_cons,List.map_nil]);first | done | rfl | (simp only [List.length_drop,List.length_take];rfl)) ?_;(with_reducible refine (laws_szLog.calls _ _ l1 t101 t102 _ ?side1 ?side2 A5.out).mono ?_);(case side1 => repeat (first | exact HR1.out | (with_reducible refine Kd.C_alloc ?_ _) | (with_reducible refine Kd.C_drewN ?_ _) | (with_reducible refine Kd.C_drew ?_)));(case side2 => exact HC1.out);rintro e w' ⟨rfl,⟨nd,rfl⟩⟩;refine ⟨_,rfl,?_⟩) | ((with_reducible refine gate_callee (f := 21) rfl ?_);refine goesL_ (some 29) rfl rfl Try.func21 (by kernel_rfl) rfl #[.slice A0 l0.length c0] rfl (by (try simp only [List.map_toArray,List.map_cons,List.map_nil]);first | done | rfl | (simp only [List.length_drop,List.length_take];rfl)) ?_;(with_reducible refine (laws_toLog.calls k _ _ l0 t103 _ ?side1 ?side2 A7.out).mono ?_);(case side1 => repeat (first | exact HR0.out | (with_reducible refine Kd.C_alloc ?_ _) | (with_reducible refine Kd.C_drewN ?_ _) | (with_reducible refine Kd.C_drew ?_)));(case side2 => exact HC0.out);rintro e w14 ⟨v104,rfl,ho0,hb⟩;refine ⟨_,rfl,?_⟩;have n0_ := Aside0.mk (Kd.R_lower ho0 (below_size (by repeat (first | (with_reducible first | exact HB.out | apply below_alloc | apply pw_below_drewN | apply below_drew1) | exact HB.out))));have n1_ := Aside0.mk (below_step (by repeat (first | (with_reducible first | exact HB.out | apply below_alloc | apply pw_below_drewN | apply below_drew1) | exact HB.out)) hb);clear HB;have HO105 := n0_;have HB := n1_;clear n0_ n1_;(try clear hb);(try clear hb2);(try clear hk);(try clear hi);(try clear ho0)) | ((with_reducible refine gate_callee (f := 21) rfl ?_);refine goesL_ (some 31) rfl rfl Try.func21 (by kernel_rfl) rfl #[.slice A1 l1.length c1] rfl (by (try simp only [List.map_toArray,List.map_cons,List.map_nil]);first | done | rfl | (simp only [List.length_drop,List.length_take];rfl)) ?_;(with_reducible refine (laws_toLog.calls k _ _ l1 t106 _ ?side1 ?side2 A8.out).mono ?_);(case side1 => repeat (first | exact (Kd.C_below HR1.out HB.out) | (with_reducible refine Kd.C_alloc ?_ _) | (with_reducible refine Kd.C_drewN ?_ _) | (with_reducible refine Kd.C_drew ?_)));(case side2 => exact HC1.out);rintro e w15 ⟨v107,rfl,ho0,hb⟩;refine ⟨_,rfl,?_⟩;have n0_ := Aside0.mk (Kd.R_elder' (by (with_reducible repeat (first | apply Kd.R_alloc | apply Kd.R_drewN | apply Kd.R_drew));exact HO105.out) (Kd.R_base ho0) hb);have n1_ := Aside0.mk (Kd.R_lower (Kd.R_new' ho0 (Kd.R_lt (by (with_reducible repeat (first | apply Kd.R_alloc | apply Kd.R_drewN | apply Kd.R_drew));exact HO105.out))) (below_size (by repeat (first | (with_reducible first | exact HB.out | apply below_alloc | apply pw_below_drewN | apply below_drew1) | exact HB.out))));have n2_ := Aside0.mk (below_step (by repeat (first | (with_reducible first | exact HB.out | apply below_alloc | apply pw_below_drewN | apply below_drew1) | exact HB.out)) hb);clear HO105;clear HB;have HO105 := n0_;have HO108 := n1_;have HB := n2_;clear n0_ n1_ n2_;(try clear hb);(try clear hb2);(try clear hk);(try clear hi);(try clear ho0);obtain ⟨Ao16,co16,eo16⟩ := Kd.R_slice HO105.out;subst eo16;obtain ⟨Ao17,co17,eo17⟩ := Kd.R_slice HO108.out;subst eo17) | ((with_reducible refine gate_callee (f := 56) rfl ?_);refine goesL_ (some 32) rfl rfl Try.func56 (by kernel_rfl) rfl #[.slice Ao16 t103.length co16,.slice Ao17 t106.length co17] rfl (by (try simp only [List.map_toArray,List.map_cons,List.map_nil]);first | done | rfl | (simp only [List.length_drop,List.length_take];rfl)) ?_;(with_reducible refine (spec_CommonOf.calls k _ _ t103 _ _ t106 t109 t110 _ ?side1 ?side2 ?side3 ?side4 A9.out).mono ?_);(case side1 => repeat (first | exact (Kd.R_reads' HO105.out).2.2 | (with_reducible refine Kd.C_alloc ?_ _) | (with_reducible refine Kd.C_drewN ?_ _) | (with_reducible refine Kd.C_drew ?_)));(case side2 => exact (Kd.R_reads' HO105.out).2.1);(case side3 => repeat (first | exact (Kd.R_reads' HO108.out).2.2 | (with_reducible refine Kd.C_alloc ?_ _) | (with_reducible refine Kd.C_drewN ?_ _) | (with_reducible refine Kd.C_drew ?_)));(case side4 => exact (Kd.R_reads' HO108.out).2.1);rintro e w18 ⟨v111,rfl,ho0,hb⟩;refine ⟨_,rfl,?_⟩;have n0_ := Aside0.mk (Kd.R_below (by (with_reducible repeat (first | apply Kd.R_alloc | apply Kd.R_drewN | apply Kd.R_drew));exact HO105.out) hb);have n1_ := Aside0.mk (Kd.R_below (by (with_reducible repeat (first | apply Kd.R_alloc | apply Kd.R_drewN | apply Kd.R_drew));exact HO108.out) hb);have n2_ := Aside0.mk (Kd.R_lower ho0 (below_size (by repeat (first | (with_reducible first | exact HB.out | apply below_alloc | apply pw_below_drewN | apply below_drew1) | exact HB.out))));have n3_ := Aside0.mk (below_step (by repeat (first | (with_reducible first | exact HB.out | apply below_alloc | apply pw_below_drewN | apply below_drew1) | exact HB.out)) hb);clear HO105;clear HO108;clear HB;have HO105 := n0_;have HO108 := n1_;have HO112 := n2_;have HB := n3_;clear n0_ n1_ n2_ n3_;(try clear hb);(try clear hb2);(try clear hk);(try clear hi);(try clear ho0)) | ((with_reducible refine gate_callee (f := 21) rfl ?_);refine goesL_ (some 36) rfl rfl Try.func21 (by kernel_rfl) rfl #[.slice A0 l0.length c0] rfl (by (try simp only [List.map_toArray,List.map_cons,List.map_nil]);first | done | rfl | (simp only [List.length_drop,List.length_take];rfl)) ?_;(with_reducible refine (laws_toLog.calls k _ _ l0 t113 _ ?side1 ?side2 A10.out).mono ?_);(case side1 => repeat (first | exact (Kd.C_below HR0.out HB.out) | (with_reducible refine Kd.C_alloc ?_ _) | (with_reducible refine Kd.C_drewN ?_ _) | (with_reducible refine Kd.C_drew ?_)));(case side2 => exact HC0.out);rintro e w19 ⟨v114,rfl,ho0,hb⟩;refine ⟨_,rfl,?_⟩;have n0_ := Aside0.mk (Kd.R_elder' (by (with_reducible repeat (first | apply Kd.R_alloc | apply Kd.R_drewN | apply Kd.R_drew));exact HO105.out) (Kd.R_base ho0) hb);have n1_ := Aside0.mk (Kd.R_elder' (by (with_reducible repeat (first | apply Kd.R_alloc | apply Kd.R_drewN | apply Kd.R_drew));exact HO108.out) (Kd.R_base ho0) hb);have n2_ := Aside0.mk (Kd.R_below (by (with_reducible repeat (first | apply Kd.R_alloc | apply Kd.R_drewN | apply Kd.R_drew));exact HO112.out) hb);have n3_ := Aside0.mk (Kd.R_lower (Kd.R_new' (Kd.R_new' ho0 (Kd.R_lt (by (with_reducible repeat (first | apply Kd.R_alloc | apply Kd.R_drewN | apply Kd.R_drew));exact HO105.out))) (Kd.R_lt (by (with_reducible repeat (first | apply Kd.R_alloc | apply Kd.R_drewN | apply Kd.R_drew));exact HO108.out))) (below_size (by repeat (first | (with_reducible first | exact HB.out | apply below_alloc | apply pw_below_drewN | apply below_drew1) | exact HB.out))));have n4_ := Aside0.mk (below_step (by repeat (first | (with_reducible first | exact HB.out | apply below_alloc | apply pw_below_drewN | apply below_drew1) | exact HB.out)) hb);clear HO105;clear HO108;clear HO112;clear HB;have HO105 := n0_;have HO108 := n1_;have HO112 := n2_;have HO115 := n3_;have HB := n4_;clear n0_ n1_ n2_ n3_ n4_;(try clear hb);(try clear hb2);(try clear hk);(try clear hi);(try clear ho0)) | ((with_reducible refine gate_callee (f := 21) rfl ?_);refine goesL_ (some 38) rfl rfl Try.func21 (by kernel_rfl) rfl #[.slice A1 l1.length c1] rfl (by (try simp only [List.map_toArray,List.map_cons,List.map_nil]);first | done | rfl | (simp only [List.length_drop,List.length_take];rfl)) ?_;(with_reducible refine (laws_toLog.calls k _ _ l1 t116 _ ?side1 ?side2 A11.out).mono ?_);(case side1 => repeat (first | exact (Kd.C_below HR1.out HB.out) | (with_reducible refine Kd.C_alloc ?_ _) | (with_reducible refine Kd.C_drewN ?_ _) | (with_reducible refine Kd.C_drew ?_)));(case side2 => exact HC1.out);rintro e w20 ⟨v117,rfl,ho0,hb⟩;refine ⟨_,rfl,?_⟩;have n0_ := Aside0.mk (Kd.R_elder' (by (with_reducible repeat (first | apply Kd.R_alloc | apply Kd.R_drewN | apply Kd.R_drew));exact HO105.out) (Kd.R_base ho0) hb);have n1_ := Aside0.mk (Kd.R_elder' (by (with_reducible repeat (first | apply Kd.R_alloc | apply Kd.R_drewN | apply Kd.R_drew));exact HO108.out) (Kd.R_base ho0) hb);have n2_ := Aside0.mk (Kd.R_below (by (with_reducible repeat (first | apply Kd.R_alloc | apply Kd.R_drewN | apply Kd.R_drew));exact HO112.out) hb);have n3_ := Aside0.mk (Kd.R_elder' (by (with_reducible repeat (first | apply Kd.R_alloc | apply Kd.R_drewN | apply Kd.R_drew));exact HO115.out) (Kd.R_base ho0) hb);have n4_ := Aside0.mk (Kd.R_lower (Kd.R_new' (Kd.R_new' (Kd.R_new' ho0 (Kd.R_lt (by (with_reducible repeat (first | apply Kd.R_alloc | apply Kd.R_drewN | apply Kd.R_drew));exact HO105.out))) (Kd.R_lt (by (with_reducible repeat (first | apply Kd.R_alloc | apply Kd.R_drewN | apply Kd.R_drew));exact HO108.out))) (Kd.R_lt (by (with_reducible repeat (first | apply Kd.R_alloc | apply Kd.R_drewN | apply Kd.R_drew));exact HO115.out))) (below_size (by repeat (first | (with_reducible first | exact HB.out | apply below_alloc | apply pw_below_drewN | apply below_drew1) | exact HB.out))));have n5_ := Aside0.mk (below_step (by repeat (first | (with_reducible first | exact HB.out | apply below_alloc | apply pw_below_drewN | apply below_drew1) | exact HB.out)) hb);clear HO105;clear HO108;clear HO112;clear HO115;clear HB;have HO105 := n0_;have HO108 := n1_;have HO112 := n2_;have HO115 := n3_;have HO118 := n4_;have HB := n5_;clear n0_ n1_ n2_ n3_ n4_ n5_;(try clear hb);(try clear hb2);(try clear hk);(try clear hi);(try clear ho0);obtain ⟨Ao21,co21,eo21⟩ := Kd.R_slice HO115.out;subst eo21;obtain ⟨Ao22,co22,eo22⟩ := Kd.R_slice HO118.out;subst eo22) | ((with_reducible refine gate_callee (f := 57) rfl ?_);refine goesL_ (some 42) rfl rfl Try.func57 (by kernel_rfl) rfl #[.slice Ao21 t113.length co21,.slice Ao22 t116.length co22] rfl (by (try simp only [List.map_toArray,List.map_cons,List.map_nil]);first | done | rfl | (simp only [List.length_drop,List.length_take];rfl)) ?_;(with_reducible refine (impl_CommonOf.calls k _ _ t113 _ _ t116 t119 t120 _ ?side1 ?side2 ?side3 ?side4 A12.out).mono ?_);(case side1 => repeat (first | exact (Kd.R_reads' HO115.out).2.2 | (with_reducible refine Kd.C_alloc ?_ _) | (with_reducible refine Kd.C_drewN ?_ _) | (with_reducible refine Kd.C_drew ?_)));(case side2 => exact (Kd.R_reads' HO115.out).2.1);(case side3 => repeat (first | exact (Kd.R_reads' HO118.out).2.2 | (with_reducible refine Kd.C_alloc ?_ _) | (with_reducible refine Kd.C_drewN ?_ _) | (with_reducible refine Kd.C_drew ?_)));(case side4 => exact (Kd.R_reads' HO118.out).2.1);rintro e w23 ⟨v121,rfl,ho0,hb⟩;refine ⟨_,rfl,?_⟩;have n0_ := Aside0.mk (Kd.R_below (by (with_reducible repeat (first | apply Kd.R_alloc | apply Kd.R_drewN | apply Kd.R_drew));exact HO105.out) hb);have n1_ := Aside0.mk (Kd.R_below (by (with_reducible repeat (first | apply Kd.R_alloc | apply Kd.R_drewN | apply Kd.R_drew));exact HO108.out) hb);have n2_ := Aside0.mk (Kd.R_elder' (by (with_reducible repeat (first | apply Kd.R_alloc | apply Kd.R_drewN | apply Kd.R_drew));exact HO112.out) (Kd.R_base ho0) hb);have n3_ := Aside0.mk (Kd.R_below (by (with_reducible repeat (first | apply Kd.R_alloc | apply Kd.R_drewN | apply Kd.R_drew));exact HO115.out) hb);have n4_ := Aside0.mk (Kd.R_below (by (with_reducible repeat (first | apply Kd.R_alloc | apply Kd.R_drewN | apply Kd.R_drew));exact HO118.out) hb);have n5_ := Aside0.mk (Kd.R_lower (Kd.R_new' ho0 (Kd.R_lt (by (with_reducible repeat (first | apply Kd.R_alloc | apply Kd.R_drewN | apply Kd.R_drew));exact HO112.out))) (below_size (by repeat (first | (with_reducible first | exact HB.out | apply below_alloc | apply pw_below_drewN | apply below_drew1) | exact HB.out))));have n6_ := Aside0.mk (below_step (by repeat (first | (with_reducible first | exact HB.out | apply below_alloc | apply pw_below_drewN | apply below_drew1) | exact HB.out)) hb);clear HO105;clear HO108;clear HO112;clear HO115;clear HO118;clear HB;have HO105 := n0_;have HO108 := n1_;have HO112 := n2_;have HO115 := n3_;have HO118 := n4_;have HO122 := n5_;have HB := n6_;clear n0_ n1_ n2_ n3_ n4_ n5_ n6_;(try clear hb);(try clear hb2);(try clear hk);(try clear hi);(try clear ho0)))
   (try simp only [Act.put,List.setIfInBounds_toArray,List.set_cons_zero,List.set_cons_succ])
   go_cut [53] (fun v53 wc => ∃ (kq : Nat) (x53_12 : Bool),v53 = .bool x53_12 ∧ Aside0 (laws_FnExactCommonOf.j0 kq l0 l1 t109 t110 t113 t116 t119 t120 x53_12 = some r) ∧ Aside0 (kq ≤ k) ∧ Aside0 (Kd.R k100 100 wc w.heap.size (fun k_ => some k_ ≠ (v121 : Value).ownBlock) v111 t109) ∧ Aside0 (Kd.R k73 73 wc w.heap.size (fun k_ => some k_ ≠ ((.slice Ao22 t116.length co22) : Value).ownBlock) (.slice Ao21 t113.length co21) t113) ∧ Aside0 (Kd.R k73 73 wc w.heap.size (fun k_ => some k_ ≠ ((.slice Ao21 t113.length co21) : Value).ownBlock) (.slice Ao22 t116.length co22) t116) ∧ Aside0 (Kd.R k100 100 wc w.heap.size (fun k_ => some k_ ≠ (v111 : Value).ownBlock) v121 t119) ∧ Aside0 (Below w.heap.size w wc))
   case first =>
    have H := HC13.out;clear HC13;replace H := Option.bind_eq_some_iff.mp H;obtain ⟨t123,A240,H⟩ := H;replace H : (if t123 = true then (laws_FnExactCommonOf.j0 k l0 l1 t109 t110 t113 t116 t119 t120 (t120 != t110)) else (laws_FnExactCommonOf.j0 k l0 l1 t109 t110 t113 t116 t119 t120 true)) = some r := H;have A24 := Aside0.mk A240;clear A240
    by_cases c25 : t123 = true
    ·subst c25
     have H1 : (laws_FnExactCommonOf.j0 k l0 l1 t109 t110 t113 t116 t119 t120 (t120 != t110)) = some r := by rw [if_pos rfl] at H;exact H
     clear H;have H := H1;clear H1;have H' := Aside0.mk H;clear H;obtain ⟨Ao26,co26,eo26⟩ := Kd.R_slice HO122.out;subst eo26;obtain ⟨Ao27,co27,eo27⟩ := Kd.R_slice HO112.out;subst eo27
     go_wp2_with (first | ((with_reducible refine gate_callee (f := 50) rfl ?_);refine goesL_ (some 47) rfl rfl Try.func50 (by kernel_rfl) rfl #[.slice Ao26 t119.length co26,.slice Ao27 t109.length co27] rfl (by (try simp only [List.map_toArray,List.map_cons,List.map_nil]);first | done | rfl | (simp only [List.length_drop,List.length_take];rfl)) ?_;(with_reducible refine (laws_eqStepS.calls k _ _ t119 _ _ t109 true _ ?side1 ?side2 ?side3 ?side4 A24.out).mono ?_);(case side1 => repeat (first | exact (Kd.R_reads' HO122.out).2.2 | (with_reducible refine Kd.C_alloc ?_ _) | (with_reducible refine Kd.C_drewN ?_ _) | (with_reducible refine Kd.C_drew ?_)));(case side2 => exact (Kd.R_reads' HO122.out).2.1);(case side3 => repeat (first | exact (Kd.R_reads' HO112.out).2.2 | (with_reducible refine Kd.C_alloc ?_ _) | (with_reducible refine Kd.C_drewN ?_ _) | (with_reducible refine Kd.C_drew ?_)));(case side4 => exact (Kd.R_reads' HO112.out).2.1);rintro e w28 ⟨rfl,hb⟩;refine ⟨_,rfl,?_⟩;have n0_ := Aside0.mk (Kd.R_below (by (with_reducible repeat (first | apply Kd.R_alloc | apply Kd.R_drewN | apply Kd.R_drew));exact HO105.out) hb);have n1_ := Aside0.mk (Kd.R_below (by (with_reducible repeat (first | apply Kd.R_alloc | apply Kd.R_drewN | apply Kd.R_drew));exact HO108.out) hb);have n2_ := Aside0.mk (Kd.R_below (by (with_reducible repeat (first | apply Kd.R_alloc | apply Kd.R_drewN | apply Kd.R_drew));exact HO112.out) hb);have n3_ := Aside0.mk (Kd.R_below (by (with_reducible repeat (first | apply Kd.R_alloc | apply Kd.R_drewN | apply Kd.R_drew));exact HO115.out) hb);have n4_ := Aside0.mk (Kd.R_below (by (with_reducible repeat (first | apply Kd.R_alloc | apply Kd.R_drewN | apply Kd.R_drew));exact HO118.out) hb);have n5_ := Aside0.mk (Kd.R_below (by (with_reducible repeat (first | apply Kd.R_alloc | apply Kd.R_drewN | apply Kd.R_drew));exact HO122.out) hb);have n6_ := Aside0.mk (below_step (by repeat (first | (with_reducible first | exact HB.out | apply below_alloc | apply pw_below_drewN | apply below_drew1) | exact HB.out)) hb);clear HO105;clear HO108;clear HO112;clear HO115;clear HO118;clear HO122;clear HB;have HO105 := n0_;have HO108 := n1_;have HO112 := n2_;have HO115 := n3_;have HO118 := n4_;have HO122 := n5_;have HB := n6_;clear n0_ n1_ n2_ n3_ n4_ n5_ n6_;(try clear hb);(try clear hb2);(try clear hk);(try clear hi)))
     go_meet
     case rel => exact ⟨_,((t120 != t110)),(by first | rfl | (simp only [IntKind.wrap_i64,wrap64];done) | (simp;done) | (simp [*];done)),H',⟨by first | omega | exact Nat.le_refl _⟩,⟨by (with_reducible repeat (first | apply Kd.R_alloc | apply Kd.R_drewN | apply Kd.R_drew));exact Kd.R_mono HO112.out (fun _ hk => hk.2)⟩,⟨by (with_reducible repeat (first | apply Kd.R_alloc | apply Kd.R_drewN | apply Kd.R_drew));exact Kd.R_mono HO115.out (fun _ hk => hk.2)⟩,⟨by (with_reducible repeat (first | apply Kd.R_alloc | apply Kd.R_drewN | apply Kd.R_drew));exact Kd.R_mono HO118.out (fun _ hk => hk.2)⟩,⟨by (with_reducible repeat (first | apply Kd.R_alloc | apply Kd.R_drewN | apply Kd.R_drew));exact Kd.R_mono HO122.out (fun _ hk => hk.2)⟩,⟨by repeat (first | (with_reducible first | exact HB.out | apply below_alloc | apply pw_below_drewN | apply below_drew1) | exact HB.out)⟩⟩
    ·replace c25 := Bool.eq_false_iff.mpr c25;subst c25
     have H1 : (laws_FnExactCommonOf.j0 k l0 l1 t109 t110 t113 t116 t119 t120 true) = some r := by rw [if_neg (show ¬ (false = true) by decide)] at H;exact H
     clear H;have H := H1;clear H1;have H' := Aside0.mk H;clear H;obtain ⟨Ao29,co29,eo29⟩ := Kd.R_slice HO122.out;subst eo29;obtain ⟨Ao30,co30,eo30⟩ := Kd.R_slice HO112.out;subst eo30
     go_wp2_with (first | ((with_reducible refine gate_callee (f := 50) rfl ?_);refine goesL_ (some 47) rfl rfl Try.func50 (by kernel_rfl) rfl #[.slice Ao29 t119.length co29,.slice Ao30 t109.length co30] rfl (by (try simp only [List.map_toArray,List.map_cons,List.map_nil]);first | done | rfl | (simp only [List.length_drop,List.length_take];rfl)) ?_;(with_reducible refine (laws_eqStepS.calls k _ _ t119 _ _ t109 false _ ?side1 ?side2 ?side3 ?side4 A24.out).mono ?_);(case side1 => repeat (first | exact (Kd.R_reads' HO122.out).2.2 | (with_reducible refine Kd.C_alloc ?_ _) | (with_reducible refine Kd.C_drewN ?_ _) | (with_reducible refine Kd.C_drew ?_)));(case side2 => exact (Kd.R_reads' HO122.out).2.1);(case side3 => repeat (first | exact (Kd.R_reads' HO112.out).2.2 | (with_reducible refine Kd.C_alloc ?_ _) | (with_reducible refine Kd.C_drewN ?_ _) | (with_reducible refine Kd.C_drew ?_)));(case side4 => exact (Kd.R_reads' HO112.out).2.1);rintro e w31 ⟨rfl,hb⟩;refine ⟨_,rfl,?_⟩;have n0_ := Aside0.mk (Kd.R_below (by (with_reducible repeat (first | apply Kd.R_alloc | apply Kd.R_drewN | apply Kd.R_drew));exact HO105.out) hb);have n1_ := Aside0.mk (Kd.R_below (by (with_reducible repeat (first | apply Kd.R_alloc | apply Kd.R_drewN | apply Kd.R_drew));exact HO108.out) hb);have n2_ := Aside0.mk (Kd.R_below (by (with_reducible repeat (first | apply Kd.R_alloc | apply Kd.R_drewN | apply Kd.R_drew));exact HO112.out) hb);have n3_ := Aside0.mk (Kd.R_below (by (with_reducible repeat (first | apply Kd.R_alloc | apply Kd.R_drewN | apply Kd.R_drew));exact HO115.out) hb);have n4_ := Aside0.mk (Kd.R_below (by (with_reducible repeat (first | apply Kd.R_alloc | apply Kd.R_drewN | apply Kd.R_drew));exact HO118.out) hb);have n5_ := Aside0.mk (Kd.R_below (by (with_reducible repeat (first | apply Kd.R_alloc | apply Kd.R_drewN | apply Kd.R_drew));exact HO122.out) hb);have n6_ := Aside0.mk (below_step (by repeat (first | (with_reducible first | exact HB.out | apply below_alloc | apply pw_below_drewN | apply below_drew1) | exact HB.out)) hb);clear HO105;clear HO108;clear HO112;clear HO115;clear HO118;clear HO122;clear HB;have HO105 := n0_;have HO108 := n1_;have HO112 := n2_;have HO115 := n3_;have HO118 := n4_;have HO122 := n5_;have HB := n6_;clear n0_ n1_ n2_ n3_ n4_ n5_ n6_;(try clear hb);(try clear hb2);(try clear hk);(try clear hi)))
     go_meet
     case rel => exact ⟨_,(true),(by first | rfl | (simp only [IntKind.wrap_i64,wrap64];done) | (simp;done) | (simp [*];done)),H',⟨by first | omega | exact Nat.le_refl _⟩,⟨by (with_reducible repeat (first | apply Kd.R_alloc | apply Kd.R_drewN | apply Kd.R_drew));exact Kd.R_mono HO112.out (fun _ hk => hk.2)⟩,⟨by (with_reducible repeat (first | apply Kd.R_alloc | apply Kd.R_drewN | apply Kd.R_drew));exact Kd.R_mono HO115.out (fun _ hk => hk.2)⟩,⟨by (with_reducible repeat (first | apply Kd.R_alloc | apply Kd.R_drewN | apply Kd.R_drew));exact Kd.R_mono HO118.out (fun _ hk => hk.2)⟩,⟨by (with_reducible repeat (first | apply Kd.R_alloc | apply Kd.R_drewN | apply Kd.R_drew));exact Kd.R_mono HO122.out (fun _ hk => hk.2)⟩,⟨by repeat (first | (with_reducible first | exact HB.out | apply below_alloc | apply pw_below_drewN | apply below_drew1) | exact HB.out)⟩⟩
   case rest =>
    clear HC13;(try clear c1);(try clear c2);(try clear p2);(try clear c4);(try clear c4b0);(try clear c5);(try clear c6);(try clear c6b0);(try clear c13);(try clear c19);(try clear c21);(try clear c25);obtain ⟨kq,x53_12,rfl,HA,HJ12,HO_6,HO_8,HO_9,HO_10,HB⟩ := hcut
    cases kq with
    | zero => exact absurd HA.out (by simp [laws_FnExactCommonOf.j0])
    | succ kj12 =>
     have H := HA.out;clear HA;simp only [laws_FnExactCommonOf.j0] at H
     by_cases c32 : x53_12 = true
     ·subst c32
      have H1 : (some false) = some r := by rw [if_pos rfl] at H;exact H
      clear H;have H := H1;clear H1;obtain rfl := Option.some.inj H
      go_wp2
      go_ret
      exact ⟨by first | rfl | (simp [errW_none,errW_some,IntKind.wrap_i64,wrap64];done) | (simp [errW_none,errW_some] <;> rfl) | (simp [*,errW_none,errW_some] <;> rfl),by repeat (first | (with_reducible first | exact HB.out | apply below_alloc | apply pw_below_drewN | apply below_drew1) | exact HB.out)⟩
     ·replace c32 := Bool.eq_false_iff.mpr c32;subst c32
      have H1 : ((laws_toLog.f kj12 l0).bind fun t124 => ((laws_eqLog.f kj12 t113 t124).bind fun t127 => (if t127 = true then ((laws_toLog.f kj12 l1).bind fun t128 => ((laws_eqLog.f kj12 t116 t128).bind fun t131 => (if t131 = true then ((laws_markLog.f kj12 t113 1).bind fun bt132 => ((laws_markLog.f kj12 t116 bt132.1).bind fun bt134 => (if bt134.1 < 0 then (laws_FnExactCommonOf.j1 kj12 l0 l1 t109 t110 t119 true) else ((laws_eqStepS.f kj12 t119 t109).bind fun t136 => (if t136 = true then (laws_FnExactCommonOf.j1 kj12 l0 l1 t109 t110 t119 (t120 != t110)) else (laws_FnExactCommonOf.j1 kj12 l0 l1 t109 t110 t119 true)))))) else (some false)))) else (some false)))) = some r := by rw [if_neg (show ¬ (false = true) by decide)] at H;exact H
      clear H;have H := H1;clear H1;replace H := Option.bind_eq_some_iff.mp H;obtain ⟨t124,A330,H⟩ := H;replace H : ((laws_eqLog.f kj12 t113 t124).bind fun t127 => (if t127 = true then ((laws_toLog.f kj12 l1).bind fun t128 => ((laws_eqLog.f kj12 t116 t128).bind fun t131 => (if t131 = true then ((laws_markLog.f kj12 t113 1).bind fun bt132 => ((laws_markLog.f kj12 t116 bt132.1).bind fun bt134 => (if bt134.1 < 0 then (laws_FnExactCommonOf.j1 kj12 l0 l1 t109 t110 t119 true) else ((laws_eqStepS.f kj12 t119 t109).bind fun t136 => (if t136 = true then (laws_FnExactCommonOf.j1 kj12 l0 l1 t109 t110 t119 (t120 != t110)) else (laws_FnExactCommonOf.j1 kj12 l0 l1 t109 t110 t119 true)))))) else (some false)))) else (some false))) = some r := H;have A33 := Aside0.mk A330;clear A330;replace H := Option.bind_eq_some_iff.mp H;obtain ⟨t127,A340,H⟩ := H;replace H : (if t127 = true then ((laws_toLog.f kj12 l1).bind fun t128 => ((laws_eqLog.f kj12 t116 t128).bind fun t131 => (if t131 = true then ((laws_markLog.f kj12 t113 1).bind fun bt132 => ((laws_markLog.f kj12 t116 bt132.1).bind fun bt134 => (if bt134.1 < 0 then (laws_FnExactCommonOf.j1 kj12 l0 l1 t109 t110 t119 true) else ((laws_eqStepS.f kj12 t119 t109).bind fun t136 => (if t136 = true then (laws_FnExactCommonOf.j1 kj12 l0 l1 t109 t110 t119 (t120 != t110)) else (laws_FnExactCommonOf.j1 kj12 l0 l1 t109 t110 t119 true)))))) else (some false)))) else (some false)) = some r := H;have A34 := Aside0.mk A340;clear A340
      by_cases c35 : t127 = true
      ·subst c35
       have H1 : ((laws_toLog.f kj12 l1).bind fun t128 => ((laws_eqLog.f kj12 t116 t128).bind fun t131 => (if t131 = true then ((laws_markLog.f kj12 t113 1).bind fun bt132 => ((laws_markLog.f kj12 t116 bt132.1).bind fun bt134 => (if bt134.1 < 0 then (laws_FnExactCommonOf.j1 kj12 l0 l1 t109 t110 t119 true) else ((laws_eqStepS.f kj12 t119 t109).bind fun t136 => (if t136 = true then (laws_FnExactCommonOf.j1 kj12 l0 l1 t109 t110 t119 (t120 != t110)) else (laws_FnExactCommonOf.j1 kj12 l0 l1 t109 t110 t119 true)))))) else (some false)))) = some r := by rw [if_pos rfl] at H;exact H
       clear H;have H := H1;clear H1;replace H := Option.bind_eq_some_iff.mp H;obtain ⟨t128,A360,H⟩ := H;replace H : ((laws_eqLog.f kj12 t116 t128).bind fun t131 => (if t131 = true then ((laws_markLog.f kj12 t113 1).bind fun bt132 => ((laws_markLog.f kj12 t116 bt132.1).bind fun bt134 => (if bt134.1 < 0 then (laws_FnExactCommonOf.j1 kj12 l0 l1 t109 t110 t119 true) else ((laws_eqStepS.f kj12 t119 t109).bind fun t136 => (if t136 = true then (laws_FnExactCommonOf.j1 kj12 l0 l1 t109 t110 t119 (t120 != t110)) else (laws_FnExactCommonOf.j1 kj12 l0 l1 t109 t110 t119 true)))))) else (some false))) = some r := H;have A36 := Aside0.mk A360;clear A360;replace H := Option.bind_eq_some_iff.mp H;obtain ⟨t131,A370,H⟩ := H;replace H : (if t131 = true then ((laws_markLog.f kj12 t113 1).bind fun bt132 => ((laws_markLog.f kj12 t116 bt132.1).bind fun bt134 => (if bt134.1 < 0 then (laws_FnExactCommonOf.j1 kj12 l0 l1 t109 t110 t119 true) else ((laws_eqStepS.f kj12 t119 t109).bind fun t136 => (if t136 = true then (laws_FnExactCommonOf.j1 kj12 l0 l1 t109 t110 t119 (t120 != t110)) else (laws_FnExactCommonOf.j1 kj12 l0 l1 t109 t110 t119 true)))))) else (some false)) = some r := H;have A37 := Aside0.mk A370;clear A370
       by_cases c38 : t131 = true
       ·subst c38
        have H1 : ((laws_markLog.f kj12 t113 1).bind fun bt132 => ((laws_markLog.f kj12 t116 bt132.1).bind fun bt134 => (if bt134.1 < 0 then (laws_FnExactCommonOf.j1 kj12 l0 l1 t109 t110 t119 true) else ((laws_eqStepS.f kj12 t119 t109).bind fun t136 => (if t136 = true then (laws_FnExactCommonOf.j1 kj12 l0 l1 t109 t110 t119 (t120 != t110)) else (laws_FnExactCommonOf.j1 kj12 l0 l1 t109 t110 t119 true)))))) = some r := by rw [if_pos rfl] at H;exact H
        clear H;have H := H1;clear H1;replace H := Option.bind_eq_some_iff.mp H;obtain ⟨⟨t132,t133⟩,A390,H⟩ := H;replace H : ((laws_markLog.f kj12 t116 t132).bind fun bt134 => (if bt134.1 < 0 then (laws_FnExactCommonOf.j1 kj12 l0 l1 t109 t110 t119 true) else ((laws_eqStepS.f kj12 t119 t109).bind fun t136 => (if t136 = true then (laws_FnExactCommonOf.j1 kj12 l0 l1 t109 t110 t119 (t120 != t110)) else (laws_FnExactCommonOf.j1 kj12 l0 l1 t109 t110 t119 true))))) = some r := H;have A39 := Aside0.mk A390;clear A390;replace H := Option.bind_eq_some_iff.mp H;obtain ⟨⟨t134,t135⟩,A400,H⟩ := H;replace H : (if t134 < 0 then (laws_FnExactCommonOf.j1 kj12 l0 l1 t109 t110 t119 true) else ((laws_eqStepS.f kj12 t119 t109).bind fun t136 => (if t136 = true then (laws_FnExactCommonOf.j1 kj12 l0 l1 t109 t110 t119 (t120 != t110)) else (laws_FnExactCommonOf.j1 kj12 l0 l1 t109 t110 t119 true)))) = some r := H;have A40 := Aside0.mk A400;clear A400;have HC41 := Aside0.mk H;clear H
        go_upto_region 21 with (first | ((with_reducible refine gate_callee (f := 21) rfl ?_);refine goesL_ (some 56) rfl rfl Try.func21 (by kernel_rfl) rfl #[.slice A0 l0.length c0] rfl (by (try simp only [List.map_toArray,List.map_cons,List.map_nil]);first | done | rfl | (simp only [List.length_drop,List.length_take];rfl)) ?_;(with_reducible refine (laws_toLog.calls kj12 _ _ l0 t124 _ ?side1 ?side2 A33.out).mono ?_);(case side1 => repeat (first | exact (Kd.C_below HR0.out HB.out) | (with_reducible refine Kd.C_alloc ?_ _) | (with_reducible refine Kd.C_drewN ?_ _) | (with_reducible refine Kd.C_drew ?_)));(case side2 => exact HC0.out);rintro e w42 ⟨v125,rfl,ho0,hb⟩;refine ⟨_,rfl,?_⟩;have n0_ := Aside0.mk (Kd.R_below (by (with_reducible repeat (first | apply Kd.R_alloc | apply Kd.R_drewN | apply Kd.R_drew));exact HO_6.out) hb);have n1_ := Aside0.mk (Kd.R_elder' (by (with_reducible repeat (first | apply Kd.R_alloc | apply Kd.R_drewN | apply Kd.R_drew));exact HO_8.out) (Kd.R_base ho0) hb);have n2_ := Aside0.mk (Kd.R_elder' (by (with_reducible repeat (first | apply Kd.R_alloc | apply Kd.R_drewN | apply Kd.R_drew));exact HO_9.out) (Kd.R_base ho0) hb);have n3_ := Aside0.mk (Kd.R_below (by (with_reducible repeat (first | apply Kd.R_alloc | apply Kd.R_drewN | apply Kd.R_drew));exact HO_10.out) hb);have n4_ := Aside0.mk (Kd.R_lower (Kd.R_new' (Kd.R_new' ho0 (Kd.R_lt (by (with_reducible repeat (first | apply Kd.R_alloc | apply Kd.R_drewN | apply Kd.R_drew));exact HO_8.out))) (Kd.R_lt (by (with_reducible repeat (first | apply Kd.R_alloc | apply Kd.R_drewN | apply Kd.R_drew));exact HO_9.out))) (below_size (by repeat (first | (with_reducible first | exact HB.out | apply below_alloc | apply pw_below_drewN | apply below_drew1) | exact HB.out))));have n5_ := Aside0.mk (below_step (by repeat (first | (with_reducible first | exact HB.out | apply below_alloc | apply pw_below_drewN | apply below_drew1) | exact HB.out)) hb);clear HO_6;clear HO_8;clear HO_9;clear HO_10;clear HB;have HO_6 := n0_;have HO_8 := n1_;have HO_9 := n2_;have HO_10 := n3_;have HO126 := n4_;have HB := n5_;clear n0_ n1_ n2_ n3_ n4_ n5_;(try clear hb);(try clear hb2);(try clear hk);(try clear hi);(try clear ho0);obtain ⟨Ao43,co43,eo43⟩ := Kd.R_slice HO126.out;subst eo43) | ((with_reducible refine gate_callee (f := 23) rfl ?_);refine goesL_ (some 57) rfl rfl Try.func23 (by kernel_rfl) rfl #[.slice Ao21 t113.length co21,.slice Ao43 t124.length co43] rfl (by (try simp only [List.map_toArray,List.map_cons,List.map_nil]);first | done | rfl | (simp only [List.length_drop,List.length_take];rfl)) ?_;(with_reducible refine (laws_eqLog.calls kj12 _ _ t113 _ _ t124 true _ ?side1 ?side2 ?side3 ?side4 A34.out).mono ?_);(case side1 => repeat (first | exact (Kd.R_reads' HO_8.out).2.2 | (with_reducible refine Kd.C_alloc ?_ _) | (with_reducible refine Kd.C_drewN ?_ _) | (with_reducible refine Kd.C_drew ?_)));(case side2 => exact (Kd.R_reads' HO_8.out).2.1);(case side3 => repeat (first | exact (Kd.R_reads' HO126.out).2.2 | (with_reducible refine Kd.C_alloc ?_ _) | (with_reducible refine Kd.C_drewN ?_ _) | (with_reducible refine Kd.C_drew ?_)));(case side4 => exact (Kd.R_reads' HO126.out).2.1);rintro e w44 ⟨rfl,hb⟩;refine ⟨_,rfl,?_⟩;have n0_ := Aside0.mk (Kd.R_below (by (with_reducible repeat (first | apply Kd.R_alloc | apply Kd.R_drewN | apply Kd.R_drew));exact HO_6.out) hb);have n1_ := Aside0.mk (Kd.R_below (by (with_reducible repeat (first | apply Kd.R_alloc | apply Kd.R_drewN | apply Kd.R_drew));exact HO_8.out) hb);have n2_ := Aside0.mk (Kd.R_below (by (with_reducible repeat (first | apply Kd.R_alloc | apply Kd.R_drewN | apply Kd.R_drew));exact HO_9.out) hb);have n3_ := Aside0.mk (Kd.R_below (by (with_reducible repeat (first | apply Kd.R_alloc | apply Kd.R_drewN | apply Kd.R_drew));exact HO_10.out) hb);have n4_ := Aside0.mk (Kd.R_below (by (with_reducible repeat (first | apply Kd.R_alloc | apply Kd.R_drewN | apply Kd.R_drew));exact HO126.out) hb);have n5_ := Aside0.mk (below_step (by repeat (first | (with_reducible first | exact HB.out | apply below_alloc | apply pw_below_drewN | apply below_drew1) | exact HB.out)) hb);clear HO_6;clear HO_8;clear HO_9;clear HO_10;clear HO126;clear HB;have HO_6 := n0_;have HO_8 := n1_;have HO_9 := n2_;have HO_10 := n3_;have HO126 := n4_;have HB := n5_;clear n0_ n1_ n2_ n3_ n4_ n5_;(try clear hb);(try clear hb2);(try clear hk);(try clear hi)) | ((with_reducible refine gate_callee (f := 21) rfl ?_);refine goesL_ (some 61) rfl rfl Try.func21 (by kernel_rfl) rfl #[.slice A1 l1.length c1] rfl (by (try simp only [List.map_toArray,List.map_cons,List.map_nil]);first | done | rfl | (simp only [List.length_drop,List.length_take];rfl)) ?_;(with_reducible refine (laws_toLog.calls kj12 _ _ l1 t128 _ ?side1 ?side2 A36.out).mono ?_);(case side1 => repeat (first | exact (Kd.C_below HR1.out HB.out) | (with_reducible refine Kd.C_alloc ?_ _) | (with_reducible refine Kd.C_drewN ?_ _) | (with_reducible refine Kd.C_drew ?_)));(case side2 => exact HC1.out);rintro e w45 ⟨v129,rfl,ho0,hb⟩;refine ⟨_,rfl,?_⟩;have n0_ := Aside0.mk (Kd.R_below (by (with_reducible repeat (first | apply Kd.R_alloc | apply Kd.R_drewN | apply Kd.R_drew));exact HO_6.out) hb);have n1_ := Aside0.mk (Kd.R_elder' (by (with_reducible repeat (first | apply Kd.R_alloc | apply Kd.R_drewN | apply Kd.R_drew));exact HO_8.out) (Kd.R_base ho0) hb);have n2_ := Aside0.mk (Kd.R_elder' (by (with_reducible repeat (first | apply Kd.R_alloc | apply Kd.R_drewN | apply Kd.R_drew));exact HO_9.out) (Kd.R_base ho0) hb);have n3_ := Aside0.mk (Kd.R_below (by (with_reducible repeat (first | apply Kd.R_alloc | apply Kd.R_drewN | apply Kd.R_drew));exact HO_10.out) hb);have n4_ := Aside0.mk (Kd.R_elder' (by (with_reducible repeat (first | apply Kd.R_alloc | apply Kd.R_drewN | apply Kd.R_drew));exact HO126.out) (Kd.R_base ho0) hb);have n5_ := Aside0.mk (Kd.R_lower (Kd.R_new' (Kd.R_new' (Kd.R_new' ho0 (Kd.R_lt (by (with_reducible repeat (first | apply Kd.R_alloc | apply Kd.R_drewN | apply Kd.R_drew));exact HO_8.out))) (Kd.R_lt (by (with_reducible repeat (first | apply Kd.R_alloc | apply Kd.R_drewN | apply Kd.R_drew));exact HO_9.out))) (Kd.R_lt (by (with_reducible repeat (first | apply Kd.R_alloc | apply Kd.R_drewN | apply Kd.R_drew));exact HO126.out))) (below_size (by repeat (first | (with_reducible first | exact HB.out | apply below_alloc | apply pw_below_drewN | apply below_drew1) | exact HB.out))));have n6_ := Aside0.mk (below_step (by repeat (first | (with_reducible first | exact HB.out | apply below_alloc | apply pw_below_drewN | apply below_drew1) | exact HB.out)) hb);clear HO_6;clear HO_8;clear HO_9;clear HO_10;clear HO126;clear HB;have HO_6 := n0_;have HO_8 := n1_;have HO_9 := n2_;have HO_10 := n3_;have HO126 := n4_;have HO130 := n5_;have HB := n6_;clear n0_ n1_ n2_ n3_ n4_ n5_ n6_;(try clear hb);(try clear hb2);(try clear hk);(try clear hi);(try clear ho0);obtain ⟨Ao46,co46,eo46⟩ := Kd.R_slice HO130.out;subst eo46) | ((with_reducible refine gate_callee (f := 23) rfl ?_);refine goesL_ (some 62) rfl rfl Try.func23 (by kernel_rfl) rfl #[.slice Ao22 t116.length co22,.slice Ao46 t128.length co46] rfl (by (try simp only [List.map_toArray,List.map_cons,List.map_nil]);first | done | rfl | (simp only [List.length_drop,List.length_take];rfl)) ?_;(with_reducible refine (laws_eqLog.calls kj12 _ _ t116 _ _ t128 true _ ?side1 ?side2 ?side3 ?side4 A37.out).mono ?_);(case side1 => repeat (first | exact (Kd.R_reads' HO_9.out).2.2 | (with_reducible refine Kd.C_alloc ?_ _) | (with_reducible refine Kd.C_drewN ?_ _) | (with_reducible refine Kd.C_drew ?_)));(case side2 => exact (Kd.R_reads' HO_9.out).2.1);(case side3 => repeat (first | exact (Kd.R_reads' HO130.out).2.2 | (with_reducible refine Kd.C_alloc ?_ _) | (with_reducible refine Kd.C_drewN ?_ _) | (with_reducible refine Kd.C_drew ?_)));(case side4 => exact (Kd.R_reads' HO130.out).2.1);rintro e w47 ⟨rfl,hb⟩;refine ⟨_,rfl,?_⟩;have n0_ := Aside0.mk (Kd.R_below (by (with_reducible repeat (first | apply Kd.R_alloc | apply Kd.R_drewN | apply Kd.R_drew));exact HO_6.out) hb);have n1_ := Aside0.mk (Kd.R_below (by (with_reducible repeat (first | apply Kd.R_alloc | apply Kd.R_drewN | apply Kd.R_drew));exact HO_8.out) hb);have n2_ := Aside0.mk (Kd.R_below (by (with_reducible repeat (first | apply Kd.R_alloc | apply Kd.R_drewN | apply Kd.R_drew));exact HO_9.out) hb);have n3_ := Aside0.mk (Kd.R_below (by (with_reducible repeat (first | apply Kd.R_alloc | apply Kd.R_drewN | apply Kd.R_drew));exact HO_10.out) hb);have n4_ := Aside0.mk (Kd.R_below (by (with_reducible repeat (first | apply Kd.R_alloc | apply Kd.R_drewN | apply Kd.R_drew));exact HO126.out) hb);have n5_ := Aside0.mk (Kd.R_below (by (with_reducible repeat (first | apply Kd.R_alloc | apply Kd.R_drewN | apply Kd.R_drew));exact HO130.out) hb);have n6_ := Aside0.mk (below_step (by repeat (first | (with_reducible first | exact HB.out | apply below_alloc | apply pw_below_drewN | apply below_drew1) | exact HB.out)) hb);clear HO_6;clear HO_8;clear HO_9;clear HO_10;clear HO126;clear HO130;clear HB;have HO_6 := n0_;have HO_8 := n1_;have HO_9 := n2_;have HO_10 := n3_;have HO126 := n4_;have HO130 := n5_;have HB := n6_;clear n0_ n1_ n2_ n3_ n4_ n5_ n6_;(try clear hb);(try clear hb2);(try clear hk);(try clear hi)) | ((with_reducible refine gate_callee (f := 30) rfl ?_);refine goesL_ (some 66) rfl rfl Try.func30 (by kernel_rfl) rfl #[.slice Ao21 t113.length co21,.int .i64 1] rfl (by (try simp only [List.map_toArray,List.map_cons,List.map_nil]);first | done | rfl | (simp only [List.length_drop,List.length_take];rfl)) ?_;(with_reducible refine (laws_markLog.calls kj12 (fun k_ => some k_ = (.slice Ao21 t113.length co21 : Value).ownBlock) (.slice Ao21 t113.length co21) t113 1 t132 t133 w _ ?side1 ?side2 A39.out).mono ?_);(case side1 => repeat (first | (with_reducible first | exact HB.out | apply below_alloc | apply pw_below_drewN | apply below_drew1) | exact HB.out));(case side2 => exact Kd.R_tight rfl HO_8.out);rintro e w48 ⟨rfl,hy0,hb,hkp⟩;refine ⟨_,rfl,?_⟩;have n0_ := Aside0.mk (Kd.R_mono (ok' := fun k_ => some k_ ≠ (v121 : Value).ownBlock) (Kd.R_keptB ((Kd.R_apart' HO_6.out (Kd.R_typed HO_8.out) (by decide))) hkp (fun k_ hk_ hs_ => (hk_.2) hs_)) (fun k_ hk_ => hk_.1.1));have n1_ := Aside0.mk (Kd.R_reok rfl hy0 (fun k_ e_ => HO_8.out.1 k_ e_));have n2_ := Aside0.mk (Kd.R_mono (ok' := fun k_ => some k_ ≠ (.slice Ao21 t113.length co21 : Value).ownBlock ∧ some k_ ≠ (.slice Ao43 t124.length co43 : Value).ownBlock ∧ some k_ ≠ (.slice Ao46 t128.length co46 : Value).ownBlock) (Kd.R_keptB (HO_9.out) hkp (fun k_ hk_ hs_ => (hk_.1.1) hs_)) (fun k_ hk_ => ⟨hk_.1.1.1,hk_.1.1.2,hk_.1.2⟩));have n3_ := Aside0.mk (Kd.R_mono (ok' := fun k_ => some k_ ≠ (v111 : Value).ownBlock) (Kd.R_keptB ((Kd.R_apart' HO_10.out (Kd.R_typed HO_8.out) (by decide))) hkp (fun k_ hk_ hs_ => (hk_.2) hs_)) (fun k_ hk_ => hk_.1.1));have n4_ := Aside0.mk (Kd.R_mono (ok' := fun k_ => some k_ ≠ (.slice Ao21 t113.length co21 : Value).ownBlock ∧ some k_ ≠ (.slice Ao22 t116.length co22 : Value).ownBlock ∧ some k_ ≠ (.slice Ao46 t128.length co46 : Value).ownBlock) (Kd.R_keptB (HO126.out) hkp (fun k_ hk_ hs_ => (hk_.1.1.2) hs_)) (fun k_ hk_ => ⟨hk_.1.1.1.2,hk_.1.1.2,hk_.1.2⟩));have n5_ := Aside0.mk (Kd.R_mono (ok' := fun k_ => some k_ ≠ (.slice Ao21 t113.length co21 : Value).ownBlock ∧ some k_ ≠ (.slice Ao22 t116.length co22 : Value).ownBlock ∧ some k_ ≠ (.slice Ao43 t124.length co43 : Value).ownBlock) (Kd.R_keptB (HO130.out) hkp (fun k_ hk_ hs_ => (hk_.1.1.2) hs_)) (fun k_ hk_ => ⟨hk_.1.1.1.2,hk_.1.1.2,hk_.1.2⟩));have n6_ := Aside0.mk (hb);clear HO_6;clear HO_8;clear HO_9;clear HO_10;clear HO126;clear HO130;clear HB;have HO_6 := n0_;have HO_8 := n1_;have HO_9 := n2_;have HO_10 := n3_;have HO126 := n4_;have HO130 := n5_;have HB := n6_;clear n0_ n1_ n2_ n3_ n4_ n5_ n6_;(try clear hb);(try clear hkp);(try clear hy0)) | ((with_reducible refine gate_callee (f := 30) rfl ?_);refine goesL_ (some 69) rfl rfl Try.func30 (by kernel_rfl) rfl #[.slice Ao22 t116.length co22,.int .i64 t132] rfl (by (try simp only [List.map_toArray,List.map_cons,List.map_nil]);first | done | rfl | (simp only [List.length_drop,List.length_take];rfl)) ?_;(with_reducible refine (laws_markLog.calls kj12 (fun k_ => some k_ = (.slice Ao22 t116.length co22 : Value).ownBlock) (.slice Ao22 t116.length co22) t116 t132 t134 t135 w _ ?side1 ?side2 A40.out).mono ?_);(case side1 => repeat (first | (with_reducible first | exact HB.out | apply below_alloc | apply pw_below_drewN | apply below_drew1) | exact HB.out));(case side2 => exact Kd.R_tight rfl HO_9.out);rintro e w49 ⟨rfl,hy0,hb,hkp⟩;refine ⟨_,rfl,?_⟩;have n0_ := Aside0.mk (Kd.R_mono (ok' := fun k_ => some k_ ≠ (v121 : Value).ownBlock) (Kd.R_keptB ((Kd.R_apart' HO_6.out (Kd.R_typed HO_9.out) (by decide))) hkp (fun k_ hk_ hs_ => (hk_.2) hs_)) (fun k_ hk_ => hk_.1.1));have n1_ := Aside0.mk (Kd.R_mono (ok' := fun k_ => some k_ ≠ (.slice Ao22 t116.length co22 : Value).ownBlock ∧ some k_ ≠ (.slice Ao43 t124.length co43 : Value).ownBlock ∧ some k_ ≠ (.slice Ao46 t128.length co46 : Value).ownBlock) (Kd.R_keptB (HO_8.out) hkp (fun k_ hk_ hs_ => (hk_.1.1) hs_)) (fun k_ hk_ => ⟨hk_.1.1.1,hk_.1.1.2,hk_.1.2⟩));have n2_ := Aside0.mk (Kd.R_reok rfl hy0 (fun k_ e_ => HO_9.out.1 k_ e_));have n3_ := Aside0.mk (Kd.R_mono (ok' := fun k_ => some k_ ≠ (v111 : Value).ownBlock) (Kd.R_keptB ((Kd.R_apart' HO_10.out (Kd.R_typed HO_9.out) (by decide))) hkp (fun k_ hk_ hs_ => (hk_.2) hs_)) (fun k_ hk_ => hk_.1.1));have n4_ := Aside0.mk (Kd.R_mono (ok' := fun k_ => some k_ ≠ (.slice Ao21 t113.length co21 : Value).ownBlock ∧ some k_ ≠ (.slice Ao22 t116.length co22 : Value).ownBlock ∧ some k_ ≠ (.slice Ao46 t128.length co46 : Value).ownBlock) (Kd.R_keptB (HO126.out) hkp (fun k_ hk_ hs_ => (hk_.2.1) hs_)) (fun k_ hk_ => ⟨hk_.1.1,hk_.1.2.1,hk_.1.2.2⟩));have n5_ := Aside0.mk (Kd.R_mono (ok' := fun k_ => some k_ ≠ (.slice Ao21 t113.length co21 : Value).ownBlock ∧ some k_ ≠ (.slice Ao22 t116.length co22 : Value).ownBlock ∧ some k_ ≠ (.slice Ao43 t124.length co43 : Value).ownBlock) (Kd.R_keptB (HO130.out) hkp (fun k_ hk_ hs_ => (hk_.2.1) hs_)) (fun k_ hk_ => ⟨hk_.1.1,hk_.1.2.1,hk_.1.2.2⟩));have n6_ := Aside0.mk (hb);clear HO_6;clear HO_8;clear HO_9;clear HO_10;clear HO126;clear HO130;clear HB;have HO_6 := n0_;have HO_8 := n1_;have HO_9 := n2_;have HO_10 := n3_;have HO126 := n4_;have HO130 := n5_;have HB := n6_;clear n0_ n1_ n2_ n3_ n4_ n5_ n6_;(try clear hb);(try clear hkp);(try clear hy0)))
        (try simp only [Act.put,List.setIfInBounds_toArray,List.set_cons_zero,List.set_cons_succ])
        go_cut [82] (fun v82 wc => ∃ (kq : Nat) (x82_40 : Bool),v82 = .bool x82_40 ∧ Aside0 (laws_FnExactCommonOf.j1 kq l0 l1 t109 t110 t119 x82_40 = some r) ∧ Aside0 (kq ≤ kj12) ∧ Aside0 (Kd.R k100 100 wc w.heap.size (fun k_ => some k_ ≠ (v121 : Value).ownBlock) v111 t109) ∧ Aside0 (Kd.R k100 100 wc w.heap.size (fun k_ => some k_ ≠ (v111 : Value).ownBlock) v121 t119) ∧ Aside0 (Below w.heap.size w wc))
        case first =>
         have H := HC41.out;clear HC41
         by_cases c50 : t134 < 0
         ·rw [if_pos c50] at H;have c50b0 : decide (t134 < 0) = true := decide_eq_true c50;clear c50;(first | rw [c50b0] | (simp only [i64_w,i32_w];rw [c50b0]) | skip);have H' := Aside0.mk H;clear H
          go_wp2
          go_meet
          case rel => exact ⟨_,(true),(by first | rfl | (simp only [IntKind.wrap_i64,wrap64];done) | (simp;done) | (simp [*];done)),H',⟨by have := HJ12.out;first | omega | exact Nat.le_refl _⟩,⟨by (with_reducible repeat (first | apply Kd.R_alloc | apply Kd.R_drewN | apply Kd.R_drew));exact HO_6.out⟩,⟨by (with_reducible repeat (first | apply Kd.R_alloc | apply Kd.R_drewN | apply Kd.R_drew));exact HO_10.out⟩,⟨by repeat (first | (with_reducible first | exact HB.out | apply below_alloc | apply pw_below_drewN | apply below_drew1) | exact HB.out)⟩⟩
         ·rw [if_neg c50] at H;have c50b0 : decide (t134 < 0) = false := decide_eq_false c50;clear c50;(first | rw [c50b0] | (simp only [i64_w,i32_w];rw [c50b0]) | skip);replace H := Option.bind_eq_some_iff.mp H;obtain ⟨t136,A510,H⟩ := H;replace H : (if t136 = true then (laws_FnExactCommonOf.j1 kj12 l0 l1 t109 t110 t119 (t120 != t110)) else (laws_FnExactCommonOf.j1 kj12 l0 l1 t109 t110 t119 true)) = some r := H;have A51 := Aside0.mk A510;clear A510
          by_cases c52 : t136 = true
          ·subst c52
           have H1 : (laws_FnExactCommonOf.j1 kj12 l0 l1 t109 t110 t119 (t120 != t110)) = some r := by rw [if_pos rfl] at H;exact H
           clear H;have H := H1;clear H1;have H' := Aside0.mk H;clear H;obtain ⟨Ao53,co53,eo53⟩ := Kd.R_slice HO_10.out;subst eo53;obtain ⟨Ao54,co54,eo54⟩ := Kd.R_slice HO_6.out;subst eo54
           go_wp2_with (first | (go_at_call 50;(with_reducible refine (laws_eqStepS.calls kj12 _ _ t119 _ _ t109 true _ ?side1 ?side2 ?side3 ?side4 A51.out).mono ?_);(case side1 => repeat (first | exact (Kd.R_reads' HO_10.out).2.2 | (with_reducible refine Kd.C_alloc ?_ _) | (with_reducible refine Kd.C_drewN ?_ _) | (with_reducible refine Kd.C_drew ?_)));(case side2 => exact (Kd.R_reads' HO_10.out).2.1);(case side3 => repeat (first | exact (Kd.R_reads' HO_6.out).2.2 | (with_reducible refine Kd.C_alloc ?_ _) | (with_reducible refine Kd.C_drewN ?_ _) | (with_reducible refine Kd.C_drew ?_)));(case side4 => exact (Kd.R_reads' HO_6.out).2.1);rintro e w55 ⟨rfl,hb⟩;have n0_ := Aside0.mk (Kd.R_below (by (with_reducible repeat (first | apply Kd.R_alloc | apply Kd.R_drewN | apply Kd.R_drew));exact HO_6.out) hb);have n1_ := Aside0.mk (Kd.R_below (by (with_reducible repeat (first | apply Kd.R_alloc | apply Kd.R_drewN | apply Kd.R_drew));exact HO_8.out) hb);have n2_ := Aside0.mk (Kd.R_below (by (with_reducible repeat (first | apply Kd.R_alloc | apply Kd.R_drewN | apply Kd.R_drew));exact HO_9.out) hb);have n3_ := Aside0.mk (Kd.R_below (by (with_reducible repeat (first | apply Kd.R_alloc | apply Kd.R_drewN | apply Kd.R_drew));exact HO_10.out) hb);have n4_ := Aside0.mk (Kd.R_below (by (with_reducible repeat (first | apply Kd.R_alloc | apply Kd.R_drewN | apply Kd.R_drew));exact HO126.out) hb);have n5_ := Aside0.mk (Kd.R_below (by (with_reducible repeat (first | apply Kd.R_alloc | apply Kd.R_drewN | apply Kd.R_drew));exact HO130.out) hb);have n6_ := Aside0.mk (below_step (by repeat (first | (with_reducible first | exact HB.out | apply below_alloc | apply pw_below_drewN | apply below_drew1) | exact HB.out)) hb);clear HO_6;clear HO_8;clear HO_9;clear HO_10;clear HO126;clear HO130;clear HB;have HO_6 := n0_;have HO_8 := n1_;have HO_9 := n2_;have HO_10 := n3_;have HO126 := n4_;have HO130 := n5_;have HB := n6_;clear n0_ n1_ n2_ n3_ n4_ n5_ n6_;(try clear hb);(try clear hb2);(try clear hk);(try clear hi)))
           go_meet
           case rel => exact ⟨_,((t120 != t110)),(by first | rfl | (simp only [IntKind.wrap_i64,wrap64];done) | (simp;done) | (simp [*];done)),H',⟨by have := HJ12.out;first | omega | exact Nat.le_refl _⟩,⟨by (with_reducible repeat (first | apply Kd.R_alloc | apply Kd.R_drewN | apply Kd.R_drew));exact HO_6.out⟩,⟨by (with_reducible repeat (first | apply Kd.R_alloc | apply Kd.R_drewN | apply Kd.R_drew));exact HO_10.out⟩,⟨by repeat (first | (with_reducible first | exact HB.out | apply below_alloc | apply pw_below_drewN | apply below_drew1) | exact HB.out)⟩⟩
          ·replace c52 := Bool.eq_false_iff.mpr c52;subst c52
           have H1 : (laws_FnExactCommonOf.j1 kj12 l0 l1 t109 t110 t119 true) = some r := by rw [if_neg (show ¬ (false = true) by decide)] at H;exact H
           clear H;have H := H1;clear H1;have H' := Aside0.mk H;clear H;obtain ⟨Ao56,co56,eo56⟩ := Kd.R_slice HO_10.out;subst eo56;obtain ⟨Ao57,co57,eo57⟩ := Kd.R_slice HO_6.out;subst eo57
           go_wp2_with (first | (go_at_call 50;(with_reducible refine (laws_eqStepS.calls kj12 _ _ t119 _ _ t109 false _ ?side1 ?side2 ?side3 ?side4 A51.out).mono ?_);(case side1 => repeat (first | exact (Kd.R_reads' HO_10.out).2.2 | (with_reducible refine Kd.C_alloc ?_ _) | (with_reducible refine Kd.C_drewN ?_ _) | (with_reducible refine Kd.C_drew ?_)));(case side2 => exact (Kd.R_reads' HO_10.out).2.1);(case side3 => repeat (first | exact (Kd.R_reads' HO_6.out).2.2 | (with_reducible refine Kd.C_alloc ?_ _) | (with_reducible refine Kd.C_drewN ?_ _) | (with_reducible refine Kd.C_drew ?_)));(case side4 => exact (Kd.R_reads' HO_6.out).2.1);rintro e w58 ⟨rfl,hb⟩;have n0_ := Aside0.mk (Kd.R_below (by (with_reducible repeat (first | apply Kd.R_alloc | apply Kd.R_drewN | apply Kd.R_drew));exact HO_6.out) hb);have n1_ := Aside0.mk (Kd.R_below (by (with_reducible repeat (first | apply Kd.R_alloc | apply Kd.R_drewN | apply Kd.R_drew));exact HO_8.out) hb);have n2_ := Aside0.mk (Kd.R_below (by (with_reducible repeat (first | apply Kd.R_alloc | apply Kd.R_drewN | apply Kd.R_drew));exact HO_9.out) hb);have n3_ := Aside0.mk (Kd.R_below (by (with_reducible repeat (first | apply Kd.R_alloc | apply Kd.R_drewN | apply Kd.R_drew));exact HO_10.out) hb);have n4_ := Aside0.mk (Kd.R_below (by (with_reducible repeat (first | apply Kd.R_alloc | apply Kd.R_drewN | apply Kd.R_drew));exact HO126.out) hb);have n5_ := Aside0.mk (Kd.R_below (by (with_reducible repeat (first | apply Kd.R_alloc | apply Kd.R_drewN | apply Kd.R_drew));exact HO130.out) hb);have n6_ := Aside0.mk (below_step (by repeat (first | (with_reducible first | exact HB.out | apply below_alloc | apply pw_below_drewN | apply below_drew1) | exact HB.out)) hb);clear HO_6;clear HO_8;clear HO_9;clear HO_10;clear HO126;clear HO130;clear HB;have HO_6 := n0_;have HO_8 := n1_;have HO_9 := n2_;have HO_10 := n3_;have HO126 := n4_;have HO130 := n5_;have HB := n6_;clear n0_ n1_ n2_ n3_ n4_ n5_ n6_;(try clear hb);(try clear hb2);(try clear hk);(try clear hi)))
           go_meet
           case rel => exact ⟨_,(true),(by first | rfl | (simp only [IntKind.wrap_i64,wrap64];done) | (simp;done) | (simp [*];done)),H',⟨by have := HJ12.out;first | omega | exact Nat.le_refl _⟩,⟨by (with_reducible repeat (first | apply Kd.R_alloc | apply Kd.R_drewN | apply Kd.R_drew));exact HO_6.out⟩,⟨by (with_reducible repeat (first | apply Kd.R_alloc | apply Kd.R_drewN | apply Kd.R_drew));exact HO_10.out⟩,⟨by repeat (first | (with_reducible first | exact HB.out | apply below_alloc | apply pw_below_drewN | apply below_drew1) | exact HB.out)⟩⟩
        case rest =>
         clear HC41;(try clear c1);(try clear c2);(try clear p2);(try clear c3);(try clear c4);(try clear c4b0);(try clear c5);(try clear c6);(try clear c6b0);(try clear c13);(try clear c19);(try clear c21);(try clear c23);(try clear c25);(try clear c30);(try clear c32);(try clear c35);(try clear c38);(try clear c50);(try clear c50b0);(try clear c52);(try clear c56);(try clear c57);(try clear p2);obtain ⟨kq,x82_40,rfl,HA,HJ40,HO_6,HO_10,HB⟩ := hcut
         cases kq with
         | zero => exact absurd HA.out (by simp [laws_FnExactCommonOf.j1])
         | succ kj40 =>
          have H := HA.out;clear HA;simp only [laws_FnExactCommonOf.j1] at H
          by_cases c59 : x82_40 = true
          ·subst c59
           have H1 : (some false) = some r := by rw [if_pos rfl] at H;exact H
           clear H;have H := H1;clear H1;obtain rfl := Option.some.inj H
           go_wp2
           go_ret
           exact ⟨by first | rfl | (simp [errW_none,errW_some,IntKind.wrap_i64,wrap64];done) | (simp [errW_none,errW_some] <;> rfl) | (simp [*,errW_none,errW_some] <;> rfl),by repeat (first | (with_reducible first | exact HB.out | apply below_alloc | apply pw_below_drewN | apply below_drew1) | exact HB.out)⟩
          ·replace c59 := Bool.eq_false_iff.mpr c59;subst c59
           have H1 : ((laws_markStepS.f kj40 t119 1).bind fun bt137 => ((laws_heldStepS.f kj40 bt137.2 1).bind fun t139 => (if t139 < 0 then (some false) else (if t139 = bt137.1 then ((laws_toLog.f kj40 l0).bind fun t140 => ((laws_toLog.f kj40 l1).bind fun t143 => ((impl_CommonOf.f kj40 t140 t143).bind fun bt146 => ((laws_eqStepS.f kj40 bt146.1 t109).bind fun t150 => (if t150 = true then (laws_FnExactCommonOf.j2 kj40 bt137.2 bt137.1 (bt146.2 != t110)) else (laws_FnExactCommonOf.j2 kj40 bt137.2 bt137.1 true)))))) else (some false))))) = some r := by rw [if_neg (show ¬ (false = true) by decide)] at H;exact H
           clear H;have H := H1;clear H1;replace H := Option.bind_eq_some_iff.mp H;obtain ⟨⟨t137,t138⟩,A600,H⟩ := H;replace H : ((laws_heldStepS.f kj40 t138 1).bind fun t139 => (if t139 < 0 then (some false) else (if t139 = t137 then ((laws_toLog.f kj40 l0).bind fun t140 => ((laws_toLog.f kj40 l1).bind fun t143 => ((impl_CommonOf.f kj40 t140 t143).bind fun bt146 => ((laws_eqStepS.f kj40 bt146.1 t109).bind fun t150 => (if t150 = true then (laws_FnExactCommonOf.j2 kj40 t138 t137 (bt146.2 != t110)) else (laws_FnExactCommonOf.j2 kj40 t138 t137 true)))))) else (some false)))) = some r := H;have A60 := Aside0.mk A600;clear A600;replace H := Option.bind_eq_some_iff.mp H;obtain ⟨t139,A610,H⟩ := H;replace H : (if t139 < 0 then (some false) else (if t139 = t137 then ((laws_toLog.f kj40 l0).bind fun t140 => ((laws_toLog.f kj40 l1).bind fun t143 => ((impl_CommonOf.f kj40 t140 t143).bind fun bt146 => ((laws_eqStepS.f kj40 bt146.1 t109).bind fun t150 => (if t150 = true then (laws_FnExactCommonOf.j2 kj40 t138 t137 (bt146.2 != t110)) else (laws_FnExactCommonOf.j2 kj40 t138 t137 true)))))) else (some false))) = some r := H;have A61 := Aside0.mk A610;clear A610
           by_cases c62 : t139 < 0
           ·rw [if_pos c62] at H;have c62b0 : decide (t139 < 0) = true := decide_eq_true c62;clear c62;obtain rfl := Option.some.inj H;obtain ⟨Ao63,co63,eo63⟩ := Kd.R_slice HO_10.out;subst eo63
            go_wp2_with (first | ((with_reducible refine gate_callee (f := 58) rfl ?_);refine goesL_ (some 85) rfl rfl Try.func58 (by kernel_rfl) rfl #[.slice Ao63 t119.length co63,.int .i64 1] rfl (by (try simp only [List.map_toArray,List.map_cons,List.map_nil]);first | done | rfl | (simp only [List.length_drop,List.length_take];rfl)) ?_;(with_reducible refine (laws_markStepS.calls kj40 (fun k_ => some k_ = (.slice Ao63 t119.length co63 : Value).ownBlock) (.slice Ao63 t119.length co63) t119 1 t137 t138 w _ ?side1 ?side2 A60.out).mono ?_);(case side1 => repeat (first | (with_reducible first | exact HB.out | apply below_alloc | apply pw_below_drewN | apply below_drew1) | exact HB.out));(case side2 => exact Kd.R_tight rfl HO_10.out);rintro e w64 ⟨rfl,hy0,hb,hkp⟩;refine ⟨_,rfl,?_⟩;have n0_ := Aside0.mk (Kd.R_mono (ok' := fun k_ => some k_ ≠ (.slice Ao63 t119.length co63 : Value).ownBlock) (Kd.R_keptB (HO_6.out) hkp (fun k_ hk_ hs_ => (hk_) hs_)) (fun k_ hk_ => hk_.1));have n1_ := Aside0.mk (Kd.R_reok rfl hy0 (fun k_ e_ => HO_10.out.1 k_ e_));have n2_ := Aside0.mk (hb);clear HO_6;clear HO_10;clear HB;have HO_6 := n0_;have HO_10 := n1_;have HB := n2_;clear n0_ n1_ n2_;(try clear hb);(try clear hkp);(try clear hy0)) | ((with_reducible refine gate_callee (f := 59) rfl ?_);refine goesL_ (some 88) rfl rfl Try.func59 (by kernel_rfl) rfl #[.slice Ao63 t138.length co63,.int .i64 1] rfl (by (try simp only [List.map_toArray,List.map_cons,List.map_nil]);first | done | (rw [show t138.length = t119.length from (Kd.R_reads' HO_10.out).1.symm] <;> rfl) | rfl | (simp only [List.length_drop,List.length_take];rfl)) ?_;(with_reducible refine (laws_heldStepS.calls kj40 _ _ t138 1 t139 _ ?side1 ?side2 A61.out).mono ?_);(case side1 => repeat (first | exact (Kd.R_reads' HO_10.out).2.2 | (with_reducible refine Kd.C_alloc ?_ _) | (with_reducible refine Kd.C_drewN ?_ _) | (with_reducible refine Kd.C_drew ?_)));(case side2 => rw [show t138.length = t119.length from (Kd.R_reads' HO_10.out).1.symm];exact (Kd.R_reads' HO_10.out).2.1);rintro e w' ⟨rfl,⟨nd,rfl⟩⟩;refine ⟨_,rfl,?_⟩))
            go_ret
            exact ⟨by first | rfl | (simp [errW_none,errW_some,IntKind.wrap_i64,wrap64];done) | (simp [errW_none,errW_some] <;> rfl) | (simp [*,errW_none,errW_some] <;> rfl),by repeat (first | (with_reducible first | exact HB.out | apply below_alloc | apply pw_below_drewN | apply below_drew1) | exact HB.out)⟩
           ·rw [if_neg c62] at H;have c62b0 : decide (t139 < 0) = false := decide_eq_false c62;clear c62
            by_cases c65 : t139 = t137
            ·rw [if_pos c65] at H;have c65b0 : (t139 == t137) = true := beq_iff_eq.mpr c65;have c65b1 : (t139 != t137) = false := bne_eq_false_iff_eq.mpr c65;clear c65;replace H := Option.bind_eq_some_iff.mp H;obtain ⟨t140,A660,H⟩ := H;replace H : ((laws_toLog.f kj40 l1).bind fun t143 => ((impl_CommonOf.f kj40 t140 t143).bind fun bt146 => ((laws_eqStepS.f kj40 bt146.1 t109).bind fun t150 => (if t150 = true then (laws_FnExactCommonOf.j2 kj40 t138 t137 (bt146.2 != t110)) else (laws_FnExactCommonOf.j2 kj40 t138 t137 true))))) = some r := H;have A66 := Aside0.mk A660;clear A660;replace H := Option.bind_eq_some_iff.mp H;obtain ⟨t143,A670,H⟩ := H;replace H : ((impl_CommonOf.f kj40 t140 t143).bind fun bt146 => ((laws_eqStepS.f kj40 bt146.1 t109).bind fun t150 => (if t150 = true then (laws_FnExactCommonOf.j2 kj40 t138 t137 (bt146.2 != t110)) else (laws_FnExactCommonOf.j2 kj40 t138 t137 true)))) = some r := H;have A67 := Aside0.mk A670;clear A670;replace H := Option.bind_eq_some_iff.mp H;obtain ⟨⟨t146,t147⟩,A680,H⟩ := H;replace H : ((laws_eqStepS.f kj40 t146 t109).bind fun t150 => (if t150 = true then (laws_FnExactCommonOf.j2 kj40 t138 t137 (t147 != t110)) else (laws_FnExactCommonOf.j2 kj40 t138 t137 true))) = some r := H;have A68 := Aside0.mk A680;clear A680;have HC69 := Aside0.mk H;clear H;obtain ⟨Ao70,co70,eo70⟩ := Kd.R_slice HO_10.out;subst eo70
             go_upto_region 32 with (first | ((with_reducible refine gate_callee (f := 58) rfl ?_);refine goesL_ (some 85) rfl rfl Try.func58 (by kernel_rfl) rfl #[.slice Ao70 t119.length co70,.int .i64 1] rfl (by (try simp only [List.map_toArray,List.map_cons,List.map_nil]);first | done | rfl | (simp only [List.length_drop,List.length_take];rfl)) ?_;(with_reducible refine (laws_markStepS.calls kj40 (fun k_ => some k_ = (.slice Ao70 t119.length co70 : Value).ownBlock) (.slice Ao70 t119.length co70) t119 1 t137 t138 w _ ?side1 ?side2 A60.out).mono ?_);(case side1 => repeat (first | (with_reducible first | exact HB.out | apply below_alloc | apply pw_below_drewN | apply below_drew1) | exact HB.out));(case side2 => exact Kd.R_tight rfl HO_10.out);rintro e w71 ⟨rfl,hy0,hb,hkp⟩;refine ⟨_,rfl,?_⟩;have n0_ := Aside0.mk (Kd.R_mono (ok' := fun k_ => some k_ ≠ (.slice Ao70 t119.length co70 : Value).ownBlock) (Kd.R_keptB (HO_6.out) hkp (fun k_ hk_ hs_ => (hk_) hs_)) (fun k_ hk_ => hk_.1));have n1_ := Aside0.mk (Kd.R_reok rfl hy0 (fun k_ e_ => HO_10.out.1 k_ e_));have n2_ := Aside0.mk (hb);clear HO_6;clear HO_10;clear HB;have HO_6 := n0_;have HO_10 := n1_;have HB := n2_;clear n0_ n1_ n2_;(try clear hb);(try clear hkp);(try clear hy0)) | ((with_reducible refine gate_callee (f := 59) rfl ?_);refine goesL_ (some 88) rfl rfl Try.func59 (by kernel_rfl) rfl #[.slice Ao70 t138.length co70,.int .i64 1] rfl (by (try simp only [List.map_toArray,List.map_cons,List.map_nil]);first | done | (rw [show t138.length = t119.length from (Kd.R_reads' HO_10.out).1.symm] <;> rfl) | rfl | (simp only [List.length_drop,List.length_take];rfl)) ?_;(with_reducible refine (laws_heldStepS.calls kj40 _ _ t138 1 t139 _ ?side1 ?side2 A61.out).mono ?_);(case side1 => repeat (first | exact (Kd.R_reads' HO_10.out).2.2 | (with_reducible refine Kd.C_alloc ?_ _) | (with_reducible refine Kd.C_drewN ?_ _) | (with_reducible refine Kd.C_drew ?_)));(case side2 => rw [show t138.length = t119.length from (Kd.R_reads' HO_10.out).1.symm];exact (Kd.R_reads' HO_10.out).2.1);rintro e w' ⟨rfl,⟨nd,rfl⟩⟩;refine ⟨_,rfl,?_⟩) | ((with_reducible refine gate_callee (f := 21) rfl ?_);refine goesL_ (some 96) rfl rfl Try.func21 (by kernel_rfl) rfl #[.slice A0 l0.length c0] rfl (by (try simp only [List.map_toArray,List.map_cons,List.map_nil]);first | done | rfl | (simp only [List.length_drop,List.length_take];rfl)) ?_;(with_reducible refine (laws_toLog.calls kj40 _ _ l0 t140 _ ?side1 ?side2 A66.out).mono ?_);(case side1 => repeat (first | exact (Kd.C_below HR0.out (by repeat (first | (with_reducible first | exact HB.out | apply below_alloc | apply pw_below_drewN | apply below_drew1) | exact HB.out))) | (with_reducible refine Kd.C_alloc ?_ _) | (with_reducible refine Kd.C_drewN ?_ _) | (with_reducible refine Kd.C_drew ?_)));(case side2 => exact HC0.out);rintro e w72 ⟨v141,rfl,ho0,hb⟩;refine ⟨_,rfl,?_⟩;have n0_ := Aside0.mk (Kd.R_below (by (with_reducible repeat (first | apply Kd.R_alloc | apply Kd.R_drewN | apply Kd.R_drew));exact HO_6.out) hb);have n1_ := Aside0.mk (Kd.R_below (by (with_reducible repeat (first | apply Kd.R_alloc | apply Kd.R_drewN | apply Kd.R_drew));exact HO_10.out) hb);have n2_ := Aside0.mk (Kd.R_lower ho0 (below_size (by repeat (first | (with_reducible first | exact HB.out | apply below_alloc | apply pw_below_drewN | apply below_drew1) | exact HB.out))));have n3_ := Aside0.mk (below_step (by repeat (first | (with_reducible first | exact HB.out | apply below_alloc | apply pw_below_drewN | apply below_drew1) | exact HB.out)) hb);clear HO_6;clear HO_10;clear HB;have HO_6 := n0_;have HO_10 := n1_;have HO142 := n2_;have HB := n3_;clear n0_ n1_ n2_ n3_;(try clear hb);(try clear hb2);(try clear hk);(try clear hi);(try clear ho0)) | ((with_reducible refine gate_callee (f := 21) rfl ?_);refine goesL_ (some 98) rfl rfl Try.func21 (by kernel_rfl) rfl #[.slice A1 l1.length c1] rfl (by (try simp only [List.map_toArray,List.map_cons,List.map_nil]);first | done | rfl | (simp only [List.length_drop,List.length_take];rfl)) ?_;(with_reducible refine (laws_toLog.calls kj40 _ _ l1 t143 _ ?side1 ?side2 A67.out).mono ?_);(case side1 => repeat (first | exact (Kd.C_below HR1.out HB.out) | (with_reducible refine Kd.C_alloc ?_ _) | (with_reducible refine Kd.C_drewN ?_ _) | (with_reducible refine Kd.C_drew ?_)));(case side2 => exact HC1.out);rintro e w73 ⟨v144,rfl,ho0,hb⟩;refine ⟨_,rfl,?_⟩;have n0_ := Aside0.mk (Kd.R_below (by (with_reducible repeat (first | apply Kd.R_alloc | apply Kd.R_drewN | apply Kd.R_drew));exact HO_6.out) hb);have n1_ := Aside0.mk (Kd.R_below (by (with_reducible repeat (first | apply Kd.R_alloc | apply Kd.R_drewN | apply Kd.R_drew));exact HO_10.out) hb);have n2_ := Aside0.mk (Kd.R_elder' (by (with_reducible repeat (first | apply Kd.R_alloc | apply Kd.R_drewN | apply Kd.R_drew));exact HO142.out) (Kd.R_base ho0) hb);have n3_ := Aside0.mk (Kd.R_lower (Kd.R_new' ho0 (Kd.R_lt (by (with_reducible repeat (first | apply Kd.R_alloc | apply Kd.R_drewN | apply Kd.R_drew));exact HO142.out))) (below_size (by repeat (first | (with_reducible first | exact HB.out | apply below_alloc | apply pw_below_drewN | apply below_drew1) | exact HB.out))));have n4_ := Aside0.mk (below_step (by repeat (first | (with_reducible first | exact HB.out | apply below_alloc | apply pw_below_drewN | apply below_drew1) | exact HB.out)) hb);clear HO_6;clear HO_10;clear HO142;clear HB;have HO_6 := n0_;have HO_10 := n1_;have HO142 := n2_;have HO145 := n3_;have HB := n4_;clear n0_ n1_ n2_ n3_ n4_;(try clear hb);(try clear hb2);(try clear hk);(try clear hi);(try clear ho0);obtain ⟨Ao74,co74,eo74⟩ := Kd.R_slice HO142.out;subst eo74;obtain ⟨Ao75,co75,eo75⟩ := Kd.R_slice HO145.out;subst eo75) | ((with_reducible refine gate_callee (f := 57) rfl ?_);refine goesL_ (some 99) rfl rfl Try.func57 (by kernel_rfl) rfl #[.slice Ao74 t140.length co74,.slice Ao75 t143.length co75] rfl (by (try simp only [List.map_toArray,List.map_cons,List.map_nil]);first | done | rfl | (simp only [List.length_drop,List.length_take];rfl)) ?_;(with_reducible refine (impl_CommonOf.calls kj40 _ _ t140 _ _ t143 t146 t147 _ ?side1 ?side2 ?side3 ?side4 A68.out).mono ?_);(case side1 => repeat (first | exact (Kd.R_reads' HO142.out).2.2 | (with_reducible refine Kd.C_alloc ?_ _) | (with_reducible refine Kd.C_drewN ?_ _) | (with_reducible refine Kd.C_drew ?_)));(case side2 => exact (Kd.R_reads' HO142.out).2.1);(case side3 => repeat (first | exact (Kd.R_reads' HO145.out).2.2 | (with_reducible refine Kd.C_alloc ?_ _) | (with_reducible refine Kd.C_drewN ?_ _) | (with_reducible refine Kd.C_drew ?_)));(case side4 => exact (Kd.R_reads' HO145.out).2.1);rintro e w76 ⟨v148,rfl,ho0,hb⟩;refine ⟨_,rfl,?_⟩;have n0_ := Aside0.mk (Kd.R_elder' (by (with_reducible repeat (first | apply Kd.R_alloc | apply Kd.R_drewN | apply Kd.R_drew));exact HO_6.out) (Kd.R_base ho0) hb);have n1_ := Aside0.mk (Kd.R_elder' (by (with_reducible repeat (first | apply Kd.R_alloc | apply Kd.R_drewN | apply Kd.R_drew));exact HO_10.out) (Kd.R_base ho0) hb);have n2_ := Aside0.mk (Kd.R_below (by (with_reducible repeat (first | apply Kd.R_alloc | apply Kd.R_drewN | apply Kd.R_drew));exact HO142.out) hb);have n3_ := Aside0.mk (Kd.R_below (by (with_reducible repeat (first | apply Kd.R_alloc | apply Kd.R_drewN | apply Kd.R_drew));exact HO145.out) hb);have n4_ := Aside0.mk (Kd.R_lower (Kd.R_new' (Kd.R_new' ho0 (Kd.R_lt (by (with_reducible repeat (first | apply Kd.R_alloc | apply Kd.R_drewN | apply Kd.R_drew));exact HO_6.out))) (Kd.R_lt (by (with_reducible repeat (first | apply Kd.R_alloc | apply Kd.R_drewN | apply Kd.R_drew));exact HO_10.out))) (below_size (by repeat (first | (with_reducible first | exact HB.out | apply below_alloc | apply pw_below_drewN | apply below_drew1) | exact HB.out))));have n5_ := Aside0.mk (below_step (by repeat (first | (with_reducible first | exact HB.out | apply below_alloc | apply pw_below_drewN | apply below_drew1) | exact HB.out)) hb);clear HO_6;clear HO_10;clear HO142;clear HO145;clear HB;have HO_6 := n0_;have HO_10 := n1_;have HO142 := n2_;have HO145 := n3_;have HO149 := n4_;have HB := n5_;clear n0_ n1_ n2_ n3_ n4_ n5_;(try clear hb);(try clear hb2);(try clear hk);(try clear hi);(try clear ho0)))
             (try simp only [Act.put,List.setIfInBounds_toArray,List.set_cons_zero,List.set_cons_succ])
             go_cut [110] (fun v110 wc => ∃ (kq : Nat) (x110_68 : Bool),v110 = .bool x110_68 ∧ Aside0 (laws_FnExactCommonOf.j2 kq t138 t137 x110_68 = some r) ∧ Aside0 (kq ≤ kj40) ∧ Aside0 (Kd.R k100 100 wc w.heap.size (fun _ => True) (.slice Ao70 t119.length co70) t138) ∧ Aside0 (Below w.heap.size w wc))
             case first =>
              have H := HC69.out;clear HC69;replace H := Option.bind_eq_some_iff.mp H;obtain ⟨t150,A770,H⟩ := H;replace H : (if t150 = true then (laws_FnExactCommonOf.j2 kj40 t138 t137 (t147 != t110)) else (laws_FnExactCommonOf.j2 kj40 t138 t137 true)) = some r := H;have A77 := Aside0.mk A770;clear A770
              by_cases c78 : t150 = true
              ·subst c78
               have H1 : (laws_FnExactCommonOf.j2 kj40 t138 t137 (t147 != t110)) = some r := by rw [if_pos rfl] at H;exact H
               clear H;have H := H1;clear H1;have H' := Aside0.mk H;clear H;obtain ⟨Ao79,co79,eo79⟩ := Kd.R_slice HO149.out;subst eo79;obtain ⟨Ao80,co80,eo80⟩ := Kd.R_slice HO_6.out;subst eo80
               go_wp2_with (first | ((with_reducible refine gate_callee (f := 50) rfl ?_);refine goesL_ (some 104) rfl rfl Try.func50 (by kernel_rfl) rfl #[.slice Ao79 t146.length co79,.slice Ao80 t109.length co80] rfl (by (try simp only [List.map_toArray,List.map_cons,List.map_nil]);first | done | rfl | (simp only [List.length_drop,List.length_take];rfl)) ?_;(with_reducible refine (laws_eqStepS.calls kj40 _ _ t146 _ _ t109 true _ ?side1 ?side2 ?side3 ?side4 A77.out).mono ?_);(case side1 => repeat (first | exact (Kd.R_reads' HO149.out).2.2 | (with_reducible refine Kd.C_alloc ?_ _) | (with_reducible refine Kd.C_drewN ?_ _) | (with_reducible refine Kd.C_drew ?_)));(case side2 => exact (Kd.R_reads' HO149.out).2.1);(case side3 => repeat (first | exact (Kd.R_reads' HO_6.out).2.2 | (with_reducible refine Kd.C_alloc ?_ _) | (with_reducible refine Kd.C_drewN ?_ _) | (with_reducible refine Kd.C_drew ?_)));(case side4 => exact (Kd.R_reads' HO_6.out).2.1);rintro e w81 ⟨rfl,hb⟩;refine ⟨_,rfl,?_⟩;have n0_ := Aside0.mk (Kd.R_below (by (with_reducible repeat (first | apply Kd.R_alloc | apply Kd.R_drewN | apply Kd.R_drew));exact HO_6.out) hb);have n1_ := Aside0.mk (Kd.R_below (by (with_reducible repeat (first | apply Kd.R_alloc | apply Kd.R_drewN | apply Kd.R_drew));exact HO_10.out) hb);have n2_ := Aside0.mk (Kd.R_below (by (with_reducible repeat (first | apply Kd.R_alloc | apply Kd.R_drewN | apply Kd.R_drew));exact HO142.out) hb);have n3_ := Aside0.mk (Kd.R_below (by (with_reducible repeat (first | apply Kd.R_alloc | apply Kd.R_drewN | apply Kd.R_drew));exact HO145.out) hb);have n4_ := Aside0.mk (Kd.R_below (by (with_reducible repeat (first | apply Kd.R_alloc | apply Kd.R_drewN | apply Kd.R_drew));exact HO149.out) hb);have n5_ := Aside0.mk (below_step (by repeat (first | (with_reducible first | exact HB.out | apply below_alloc | apply pw_below_drewN | apply below_drew1) | exact HB.out)) hb);clear HO_6;clear HO_10;clear HO142;clear HO145;clear HO149;clear HB;have HO_6 := n0_;have HO_10 := n1_;have HO142 := n2_;have HO145 := n3_;have HO149 := n4_;have HB := n5_;clear n0_ n1_ n2_ n3_ n4_ n5_;(try clear hb);(try clear hb2);(try clear hk);(try clear hi)))
               go_meet
               case rel => exact ⟨_,((t147 != t110)),(by first | rfl | (simp only [IntKind.wrap_i64,wrap64];done) | (simp;done) | (simp [*];done)),H',⟨by have := HJ12.out;have := HJ40.out;first | omega | exact Nat.le_refl _⟩,⟨by (with_reducible repeat (first | apply Kd.R_alloc | apply Kd.R_drewN | apply Kd.R_drew));exact Kd.R_mono HO_10.out (fun _ hk => trivial)⟩,⟨by repeat (first | (with_reducible first | exact HB.out | apply below_alloc | apply pw_below_drewN | apply below_drew1) | exact HB.out)⟩⟩
              ·replace c78 := Bool.eq_false_iff.mpr c78;subst c78
               have H1 : (laws_FnExactCommonOf.j2 kj40 t138 t137 true) = some r := by rw [if_neg (show ¬ (false = true) by decide)] at H;exact H
               clear H;have H := H1;clear H1;have H' := Aside0.mk H;clear H;obtain ⟨Ao82,co82,eo82⟩ := Kd.R_slice HO149.out;subst eo82;obtain ⟨Ao83,co83,eo83⟩ := Kd.R_slice HO_6.out;subst eo83
               go_wp2_with (first | ((with_reducible refine gate_callee (f := 50) rfl ?_);refine goesL_ (some 104) rfl rfl Try.func50 (by kernel_rfl) rfl #[.slice Ao82 t146.length co82,.slice Ao83 t109.length co83] rfl (by (try simp only [List.map_toArray,List.map_cons,List.map_nil]);first | done | rfl | (simp only [List.length_drop,List.length_take];rfl)) ?_;(with_reducible refine (laws_eqStepS.calls kj40 _ _ t146 _ _ t109 false _ ?side1 ?side2 ?side3 ?side4 A77.out).mono ?_);(case side1 => repeat (first | exact (Kd.R_reads' HO149.out).2.2 | (with_reducible refine Kd.C_alloc ?_ _) | (with_reducible refine Kd.C_drewN ?_ _) | (with_reducible refine Kd.C_drew ?_)));(case side2 => exact (Kd.R_reads' HO149.out).2.1);(case side3 => repeat (first | exact (Kd.R_reads' HO_6.out).2.2 | (with_reducible refine Kd.C_alloc ?_ _) | (with_reducible refine Kd.C_drewN ?_ _) | (with_reducible refine Kd.C_drew ?_)));(case side4 => exact (Kd.R_reads' HO_6.out).2.1);rintro e w84 ⟨rfl,hb⟩;refine ⟨_,rfl,?_⟩;have n0_ := Aside0.mk (Kd.R_below (by (with_reducible repeat (first | apply Kd.R_alloc | apply Kd.R_drewN | apply Kd.R_drew));exact HO_6.out) hb);have n1_ := Aside0.mk (Kd.R_below (by (with_reducible repeat (first | apply Kd.R_alloc | apply Kd.R_drewN | apply Kd.R_drew));exact HO_10.out) hb);have n2_ := Aside0.mk (Kd.R_below (by (with_reducible repeat (first | apply Kd.R_alloc | apply Kd.R_drewN | apply Kd.R_drew));exact HO142.out) hb);have n3_ := Aside0.mk (Kd.R_below (by (with_reducible repeat (first | apply Kd.R_alloc | apply Kd.R_drewN | apply Kd.R_drew));exact HO145.out) hb);have n4_ := Aside0.mk (Kd.R_below (by (with_reducible repeat (first | apply Kd.R_alloc | apply Kd.R_drewN | apply Kd.R_drew));exact HO149.out) hb);have n5_ := Aside0.mk (below_step (by repeat (first | (with_reducible first | exact HB.out | apply below_alloc | apply pw_below_drewN | apply below_drew1) | exact HB.out)) hb);clear HO_6;clear HO_10;clear HO142;clear HO145;clear HO149;clear HB;have HO_6 := n0_;have HO_10 := n1_;have HO142 := n2_;have HO145 := n3_;have HO149 := n4_;have HB := n5_;clear n0_ n1_ n2_ n3_ n4_ n5_;(try clear hb);(try clear hb2);(try clear hk);(try clear hi)))
               go_meet
               case rel => exact ⟨_,(true),(by first | rfl | (simp only [IntKind.wrap_i64,wrap64];done) | (simp;done) | (simp [*];done)),H',⟨by have := HJ12.out;have := HJ40.out;first | omega | exact Nat.le_refl _⟩,⟨by (with_reducible repeat (first | apply Kd.R_alloc | apply Kd.R_drewN | apply Kd.R_drew));exact Kd.R_mono HO_10.out (fun _ hk => trivial)⟩,⟨by repeat (first | (with_reducible first | exact HB.out | apply below_alloc | apply pw_below_drewN | apply below_drew1) | exact HB.out)⟩⟩
             case rest =>
              clear HC69;(try clear c1);(try clear c2);(try clear p2);(try clear c3);(try clear c4);(try clear c4b0);(try clear c5);(try clear c6);(try clear c6b0);(try clear c7);(try clear c13);(try clear c19);(try clear c21);(try clear c23);(try clear c25);(try clear c30);(try clear c32);(try clear c35);(try clear c38);(try clear c50);(try clear c50b0);(try clear c52);(try clear c56);(try clear c57);(try clear c58);(try clear c59);(try clear c62);(try clear c62b0);(try clear c65);(try clear c65b0);(try clear c65b1);(try clear c78);(try clear p2);obtain ⟨kq,x110_68,rfl,HA,HJ68,HO_10,HB⟩ := hcut;have hl10_68 := (Kd.R_reads' HO_10.out).1;rw [hl10_68] at HO_10;(try simp only [hl10_68])
              cases kq with
              | zero => exact absurd HA.out (by simp [laws_FnExactCommonOf.j2])
              | succ kj68 =>
               have H := HA.out;clear HA;simp only [laws_FnExactCommonOf.j2] at H
               by_cases c85 : x110_68 = true
               ·subst c85
                have H1 : (some false) = some r := by rw [if_pos rfl] at H;exact H
                clear H;have H := H1;clear H1;obtain rfl := Option.some.inj H
                go_wp2
                go_ret
                exact ⟨by first | rfl | (simp [errW_none,errW_some,IntKind.wrap_i64,wrap64];done) | (simp [errW_none,errW_some] <;> rfl) | (simp [*,errW_none,errW_some] <;> rfl),by repeat (first | (with_reducible first | exact HB.out | apply below_alloc | apply pw_below_drewN | apply below_drew1) | exact HB.out)⟩
               ·replace c85 := Bool.eq_false_iff.mpr c85;subst c85
                have H1 : ((laws_heldStepS.f kj68 t138 1).bind fun t151 => (if t151 < 0 then (some false) else (if t151 = t137 then (some true) else (some false)))) = some r := by rw [if_neg (show ¬ (false = true) by decide)] at H;exact H
                clear H;have H := H1;clear H1;replace H := Option.bind_eq_some_iff.mp H;obtain ⟨t151,A860,H⟩ := H;replace H : (if t151 < 0 then (some false) else (if t151 = t137 then (some true) else (some false))) = some r := H;have A86 := Aside0.mk A860;clear A860
                by_cases c87 : t151 < 0
                ·rw [if_pos c87] at H;have c87b0 : decide (t151 < 0) = true := decide_eq_true c87;clear c87;obtain rfl := Option.some.inj H
                 go_wp2_with (first | ((with_reducible refine gate_callee (f := 59) rfl ?_);refine goesL_ (some 113) rfl rfl Try.func59 (by kernel_rfl) rfl #[.slice Ao70 t138.length co70,.int .i64 1] rfl (by (try simp only [List.map_toArray,List.map_cons,List.map_nil]);first | done | rfl | (simp only [List.length_drop,List.length_take];rfl)) ?_;(with_reducible refine (laws_heldStepS.calls kj68 _ _ t138 1 t151 _ ?side1 ?side2 A86.out).mono ?_);(case side1 => repeat (first | exact (Kd.R_reads' HO_10.out).2.2 | (with_reducible refine Kd.C_alloc ?_ _) | (with_reducible refine Kd.C_drewN ?_ _) | (with_reducible refine Kd.C_drew ?_)));(case side2 => exact (Kd.R_reads' HO_10.out).2.1);rintro e w' ⟨rfl,⟨nd,rfl⟩⟩;refine ⟨_,rfl,?_⟩))
                 go_ret
                 exact ⟨by first | rfl | (simp [errW_none,errW_some,IntKind.wrap_i64,wrap64];done) | (simp [errW_none,errW_some] <;> rfl) | (simp [*,errW_none,errW_some] <;> rfl),by repeat (first | (with_reducible first | exact HB.out | apply below_alloc | apply pw_below_drewN | apply below_drew1) | exact HB.out)⟩
                ·rw [if_neg c87] at H;have c87b0 : decide (t151 < 0) = false := decide_eq_false c87;clear c87
                 by_cases c88 : t151 = t137
                 ·rw [if_pos c88] at H;have c88b0 : (t151 == t137) = true := beq_iff_eq.mpr c88;have c88b1 : (t151 != t137) = false := bne_eq_false_iff_eq.mpr c88;clear c88;obtain rfl := Option.some.inj H
                  go_wp2_with (first | ((with_reducible refine gate_callee (f := 59) rfl ?_);refine goesL_ (some 113) rfl rfl Try.func59 (by kernel_rfl) rfl #[.slice Ao70 t138.length co70,.int .i64 1] rfl (by (try simp only [List.map_toArray,List.map_cons,List.map_nil]);first | done | rfl | (simp only [List.length_drop,List.length_take];rfl)) ?_;(with_reducible refine (laws_heldStepS.calls kj68 _ _ t138 1 t151 _ ?side1 ?side2 A86.out).mono ?_);(case side1 => repeat (first | exact (Kd.R_reads' HO_10.out).2.2 | (with_reducible refine Kd.C_alloc ?_ _) | (with_reducible refine Kd.C_drewN ?_ _) | (with_reducible refine Kd.C_drew ?_)));(case side2 => exact (Kd.R_reads' HO_10.out).2.1);rintro e w' ⟨rfl,⟨nd,rfl⟩⟩;refine ⟨_,rfl,?_⟩))
                  go_ret
                  exact ⟨by first | rfl | (simp [errW_none,errW_some,IntKind.wrap_i64,wrap64];done) | (simp [errW_none,errW_some] <;> rfl) | (simp [*,errW_none,errW_some] <;> rfl),by repeat (first | (with_reducible first | exact HB.out | apply below_alloc | apply pw_below_drewN | apply below_drew1) | exact HB.out)⟩
                 ·rw [if_neg c88] at H;have c88b0 : (t151 == t137) = false := beq_eq_false_iff_ne.mpr c88;have c88b1 : (t151 != t137) = true := bne_iff_ne.mpr c88;obtain rfl := Option.some.inj H
                  go_wp2_with (first | ((with_reducible refine gate_callee (f := 59) rfl ?_);refine goesL_ (some 113) rfl rfl Try.func59 (by kernel_rfl) rfl #[.slice Ao70 t138.length co70,.int .i64 1] rfl (by (try simp only [List.map_toArray,List.map_cons,List.map_nil]);first | done | rfl | (simp only [List.length_drop,List.length_take];rfl)) ?_;(with_reducible refine (laws_heldStepS.calls kj68 _ _ t138 1 t151 _ ?side1 ?side2 A86.out).mono ?_);(case side1 => repeat (first | exact (Kd.R_reads' HO_10.out).2.2 | (with_reducible refine Kd.C_alloc ?_ _) | (with_reducible refine Kd.C_drewN ?_ _) | (with_reducible refine Kd.C_drew ?_)));(case side2 => exact (Kd.R_reads' HO_10.out).2.1);rintro e w' ⟨rfl,⟨nd,rfl⟩⟩;refine ⟨_,rfl,?_⟩))
                  go_ret
                  exact ⟨by first | rfl | (simp [errW_none,errW_some,IntKind.wrap_i64,wrap64];done) | (simp [errW_none,errW_some] <;> rfl) | (simp [*,errW_none,errW_some] <;> rfl),by repeat (first | (with_reducible first | exact HB.out | apply below_alloc | apply pw_below_drewN | apply below_drew1) | exact HB.out)⟩
            ·rw [if_neg c65] at H;have c65b0 : (t139 == t137) = false := beq_eq_false_iff_ne.mpr c65;have c65b1 : (t139 != t137) = true := bne_iff_ne.mpr c65;obtain rfl := Option.some.inj H;obtain ⟨Ao89,co89,eo89⟩ := Kd.R_slice HO_10.out;subst eo89
             go_wp2_with (first | ((with_reducible refine gate_callee (f := 58) rfl ?_);refine goesL_ (some 85) rfl rfl Try.func58 (by kernel_rfl) rfl #[.slice Ao89 t119.length co89,.int .i64 1] rfl (by (try simp only [List.map_toArray,List.map_cons,List.map_nil]);first | done | rfl | (simp only [List.length_drop,List.length_take];rfl)) ?_;(with_reducible refine (laws_markStepS.calls kj40 (fun k_ => some k_ = (.slice Ao89 t119.length co89 : Value).ownBlock) (.slice Ao89 t119.length co89) t119 1 t137 t138 w _ ?side1 ?side2 A60.out).mono ?_);(case side1 => repeat (first | (with_reducible first | exact HB.out | apply below_alloc | apply pw_below_drewN | apply below_drew1) | exact HB.out));(case side2 => exact Kd.R_tight rfl HO_10.out);rintro e w90 ⟨rfl,hy0,hb,hkp⟩;refine ⟨_,rfl,?_⟩;have n0_ := Aside0.mk (Kd.R_mono (ok' := fun k_ => some k_ ≠ (.slice Ao89 t119.length co89 : Value).ownBlock) (Kd.R_keptB (HO_6.out) hkp (fun k_ hk_ hs_ => (hk_) hs_)) (fun k_ hk_ => hk_.1));have n1_ := Aside0.mk (Kd.R_reok rfl hy0 (fun k_ e_ => HO_10.out.1 k_ e_));have n2_ := Aside0.mk (hb);clear HO_6;clear HO_10;clear HB;have HO_6 := n0_;have HO_10 := n1_;have HB := n2_;clear n0_ n1_ n2_;(try clear hb);(try clear hkp);(try clear hy0)) | ((with_reducible refine gate_callee (f := 59) rfl ?_);refine goesL_ (some 88) rfl rfl Try.func59 (by kernel_rfl) rfl #[.slice Ao89 t138.length co89,.int .i64 1] rfl (by (try simp only [List.map_toArray,List.map_cons,List.map_nil]);first | done | (rw [show t138.length = t119.length from (Kd.R_reads' HO_10.out).1.symm] <;> rfl) | rfl | (simp only [List.length_drop,List.length_take];rfl)) ?_;(with_reducible refine (laws_heldStepS.calls kj40 _ _ t138 1 t139 _ ?side1 ?side2 A61.out).mono ?_);(case side1 => repeat (first | exact (Kd.R_reads' HO_10.out).2.2 | (with_reducible refine Kd.C_alloc ?_ _) | (with_reducible refine Kd.C_drewN ?_ _) | (with_reducible refine Kd.C_drew ?_)));(case side2 => rw [show t138.length = t119.length from (Kd.R_reads' HO_10.out).1.symm];exact (Kd.R_reads' HO_10.out).2.1);rintro e w' ⟨rfl,⟨nd,rfl⟩⟩;refine ⟨_,rfl,?_⟩))
             go_ret
             exact ⟨by first | rfl | (simp [errW_none,errW_some,IntKind.wrap_i64,wrap64];done) | (simp [errW_none,errW_some] <;> rfl) | (simp [*,errW_none,errW_some] <;> rfl),by repeat (first | (with_reducible first | exact HB.out | apply below_alloc | apply pw_below_drewN | apply below_drew1) | exact HB.out)⟩
       ·replace c38 := Bool.eq_false_iff.mpr c38;subst c38
        have H1 : (some false) = some r := by rw [if_neg (show ¬ (false = true) by decide)] at H;exact H
        clear H;have H := H1;clear H1;obtain rfl := Option.some.inj H
        go_wp2_with (first | ((with_reducible refine gate_callee (f := 21) rfl ?_);refine goesL_ (some 56) rfl rfl Try.func21 (by kernel_rfl) rfl #[.slice A0 l0.length c0] rfl (by (try simp only [List.map_toArray,List.map_cons,List.map_nil]);first | done | rfl | (simp only [List.length_drop,List.length_take];rfl)) ?_;(with_reducible refine (laws_toLog.calls kj12 _ _ l0 t124 _ ?side1 ?side2 A33.out).mono ?_);(case side1 => repeat (first | exact (Kd.C_below HR0.out HB.out) | (with_reducible refine Kd.C_alloc ?_ _) | (with_reducible refine Kd.C_drewN ?_ _) | (with_reducible refine Kd.C_drew ?_)));(case side2 => exact HC0.out);rintro e w91 ⟨v125,rfl,ho0,hb⟩;refine ⟨_,rfl,?_⟩;have n0_ := Aside0.mk (Kd.R_below (by (with_reducible repeat (first | apply Kd.R_alloc | apply Kd.R_drewN | apply Kd.R_drew));exact HO_6.out) hb);have n1_ := Aside0.mk (Kd.R_elder' (by (with_reducible repeat (first | apply Kd.R_alloc | apply Kd.R_drewN | apply Kd.R_drew));exact HO_8.out) (Kd.R_base ho0) hb);have n2_ := Aside0.mk (Kd.R_elder' (by (with_reducible repeat (first | apply Kd.R_alloc | apply Kd.R_drewN | apply Kd.R_drew));exact HO_9.out) (Kd.R_base ho0) hb);have n3_ := Aside0.mk (Kd.R_below (by (with_reducible repeat (first | apply Kd.R_alloc | apply Kd.R_drewN | apply Kd.R_drew));exact HO_10.out) hb);have n4_ := Aside0.mk (Kd.R_lower (Kd.R_new' (Kd.R_new' ho0 (Kd.R_lt (by (with_reducible repeat (first | apply Kd.R_alloc | apply Kd.R_drewN | apply Kd.R_drew));exact HO_8.out))) (Kd.R_lt (by (with_reducible repeat (first | apply Kd.R_alloc | apply Kd.R_drewN | apply Kd.R_drew));exact HO_9.out))) (below_size (by repeat (first | (with_reducible first | exact HB.out | apply below_alloc | apply pw_below_drewN | apply below_drew1) | exact HB.out))));have n5_ := Aside0.mk (below_step (by repeat (first | (with_reducible first | exact HB.out | apply below_alloc | apply pw_below_drewN | apply below_drew1) | exact HB.out)) hb);clear HO_6;clear HO_8;clear HO_9;clear HO_10;clear HB;have HO_6 := n0_;have HO_8 := n1_;have HO_9 := n2_;have HO_10 := n3_;have HO126 := n4_;have HB := n5_;clear n0_ n1_ n2_ n3_ n4_ n5_;(try clear hb);(try clear hb2);(try clear hk);(try clear hi);(try clear ho0);obtain ⟨Ao92,co92,eo92⟩ := Kd.R_slice HO126.out;subst eo92) | ((with_reducible refine gate_callee (f := 23) rfl ?_);refine goesL_ (some 57) rfl rfl Try.func23 (by kernel_rfl) rfl #[.slice Ao21 t113.length co21,.slice Ao92 t124.length co92] rfl (by (try simp only [List.map_toArray,List.map_cons,List.map_nil]);first | done | rfl | (simp only [List.length_drop,List.length_take];rfl)) ?_;(with_reducible refine (laws_eqLog.calls kj12 _ _ t113 _ _ t124 true _ ?side1 ?side2 ?side3 ?side4 A34.out).mono ?_);(case side1 => repeat (first | exact (Kd.R_reads' HO_8.out).2.2 | (with_reducible refine Kd.C_alloc ?_ _) | (with_reducible refine Kd.C_drewN ?_ _) | (with_reducible refine Kd.C_drew ?_)));(case side2 => exact (Kd.R_reads' HO_8.out).2.1);(case side3 => repeat (first | exact (Kd.R_reads' HO126.out).2.2 | (with_reducible refine Kd.C_alloc ?_ _) | (with_reducible refine Kd.C_drewN ?_ _) | (with_reducible refine Kd.C_drew ?_)));(case side4 => exact (Kd.R_reads' HO126.out).2.1);rintro e w93 ⟨rfl,hb⟩;refine ⟨_,rfl,?_⟩;have n0_ := Aside0.mk (Kd.R_below (by (with_reducible repeat (first | apply Kd.R_alloc | apply Kd.R_drewN | apply Kd.R_drew));exact HO_6.out) hb);have n1_ := Aside0.mk (Kd.R_below (by (with_reducible repeat (first | apply Kd.R_alloc | apply Kd.R_drewN | apply Kd.R_drew));exact HO_8.out) hb);have n2_ := Aside0.mk (Kd.R_below (by (with_reducible repeat (first | apply Kd.R_alloc | apply Kd.R_drewN | apply Kd.R_drew));exact HO_9.out) hb);have n3_ := Aside0.mk (Kd.R_below (by (with_reducible repeat (first | apply Kd.R_alloc | apply Kd.R_drewN | apply Kd.R_drew));exact HO_10.out) hb);have n4_ := Aside0.mk (Kd.R_below (by (with_reducible repeat (first | apply Kd.R_alloc | apply Kd.R_drewN | apply Kd.R_drew));exact HO126.out) hb);have n5_ := Aside0.mk (below_step (by repeat (first | (with_reducible first | exact HB.out | apply below_alloc | apply pw_below_drewN | apply below_drew1) | exact HB.out)) hb);clear HO_6;clear HO_8;clear HO_9;clear HO_10;clear HO126;clear HB;have HO_6 := n0_;have HO_8 := n1_;have HO_9 := n2_;have HO_10 := n3_;have HO126 := n4_;have HB := n5_;clear n0_ n1_ n2_ n3_ n4_ n5_;(try clear hb);(try clear hb2);(try clear hk);(try clear hi)) | ((with_reducible refine gate_callee (f := 21) rfl ?_);refine goesL_ (some 61) rfl rfl Try.func21 (by kernel_rfl) rfl #[.slice A1 l1.length c1] rfl (by (try simp only [List.map_toArray,List.map_cons,List.map_nil]);first | done | rfl | (simp only [List.length_drop,List.length_take];rfl)) ?_;(with_reducible refine (laws_toLog.calls kj12 _ _ l1 t128 _ ?side1 ?side2 A36.out).mono ?_);(case side1 => repeat (first | exact (Kd.C_below HR1.out HB.out) | (with_reducible refine Kd.C_alloc ?_ _) | (with_reducible refine Kd.C_drewN ?_ _) | (with_reducible refine Kd.C_drew ?_)));(case side2 => exact HC1.out);rintro e w94 ⟨v129,rfl,ho0,hb⟩;refine ⟨_,rfl,?_⟩;have n0_ := Aside0.mk (Kd.R_below (by (with_reducible repeat (first | apply Kd.R_alloc | apply Kd.R_drewN | apply Kd.R_drew));exact HO_6.out) hb);have n1_ := Aside0.mk (Kd.R_elder' (by (with_reducible repeat (first | apply Kd.R_alloc | apply Kd.R_drewN | apply Kd.R_drew));exact HO_8.out) (Kd.R_base ho0) hb);have n2_ := Aside0.mk (Kd.R_elder' (by (with_reducible repeat (first | apply Kd.R_alloc | apply Kd.R_drewN | apply Kd.R_drew));exact HO_9.out) (Kd.R_base ho0) hb);have n3_ := Aside0.mk (Kd.R_below (by (with_reducible repeat (first | apply Kd.R_alloc | apply Kd.R_drewN | apply Kd.R_drew));exact HO_10.out) hb);have n4_ := Aside0.mk (Kd.R_elder' (by (with_reducible repeat (first | apply Kd.R_alloc | apply Kd.R_drewN | apply Kd.R_drew));exact HO126.out) (Kd.R_base ho0) hb);have n5_ := Aside0.mk (Kd.R_lower (Kd.R_new' (Kd.R_new' (Kd.R_new' ho0 (Kd.R_lt (by (with_reducible repeat (first | apply Kd.R_alloc | apply Kd.R_drewN | apply Kd.R_drew));exact HO_8.out))) (Kd.R_lt (by (with_reducible repeat (first | apply Kd.R_alloc | apply Kd.R_drewN | apply Kd.R_drew));exact HO_9.out))) (Kd.R_lt (by (with_reducible repeat (first | apply Kd.R_alloc | apply Kd.R_drewN | apply Kd.R_drew));exact HO126.out))) (below_size (by repeat (first | (with_reducible first | exact HB.out | apply below_alloc | apply pw_below_drewN | apply below_drew1) | exact HB.out))));have n6_ := Aside0.mk (below_step (by repeat (first | (with_reducible first | exact HB.out | apply below_alloc | apply pw_below_drewN | apply below_drew1) | exact HB.out)) hb);clear HO_6;clear HO_8;clear HO_9;clear HO_10;clear HO126;clear HB;have HO_6 := n0_;have HO_8 := n1_;have HO_9 := n2_;have HO_10 := n3_;have HO126 := n4_;have HO130 := n5_;have HB := n6_;clear n0_ n1_ n2_ n3_ n4_ n5_ n6_;(try clear hb);(try clear hb2);(try clear hk);(try clear hi);(try clear ho0);obtain ⟨Ao95,co95,eo95⟩ := Kd.R_slice HO130.out;subst eo95) | ((with_reducible refine gate_callee (f := 23) rfl ?_);refine goesL_ (some 62) rfl rfl Try.func23 (by kernel_rfl) rfl #[.slice Ao22 t116.length co22,.slice Ao95 t128.length co95] rfl (by (try simp only [List.map_toArray,List.map_cons,List.map_nil]);first | done | rfl | (simp only [List.length_drop,List.length_take];rfl)) ?_;(with_reducible refine (laws_eqLog.calls kj12 _ _ t116 _ _ t128 false _ ?side1 ?side2 ?side3 ?side4 A37.out).mono ?_);(case side1 => repeat (first | exact (Kd.R_reads' HO_9.out).2.2 | (with_reducible refine Kd.C_alloc ?_ _) | (with_reducible refine Kd.C_drewN ?_ _) | (with_reducible refine Kd.C_drew ?_)));(case side2 => exact (Kd.R_reads' HO_9.out).2.1);(case side3 => repeat (first | exact (Kd.R_reads' HO130.out).2.2 | (with_reducible refine Kd.C_alloc ?_ _) | (with_reducible refine Kd.C_drewN ?_ _) | (with_reducible refine Kd.C_drew ?_)));(case side4 => exact (Kd.R_reads' HO130.out).2.1);rintro e w96 ⟨rfl,hb⟩;refine ⟨_,rfl,?_⟩;have n0_ := Aside0.mk (Kd.R_below (by (with_reducible repeat (first | apply Kd.R_alloc | apply Kd.R_drewN | apply Kd.R_drew));exact HO_6.out) hb);have n1_ := Aside0.mk (Kd.R_below (by (with_reducible repeat (first | apply Kd.R_alloc | apply Kd.R_drewN | apply Kd.R_drew));exact HO_8.out) hb);have n2_ := Aside0.mk (Kd.R_below (by (with_reducible repeat (first | apply Kd.R_alloc | apply Kd.R_drewN | apply Kd.R_drew));exact HO_9.out) hb);have n3_ := Aside0.mk (Kd.R_below (by (with_reducible repeat (first | apply Kd.R_alloc | apply Kd.R_drewN | apply Kd.R_drew));exact HO_10.out) hb);have n4_ := Aside0.mk (Kd.R_below (by (with_reducible repeat (first | apply Kd.R_alloc | apply Kd.R_drewN | apply Kd.R_drew));exact HO126.out) hb);have n5_ := Aside0.mk (Kd.R_below (by (with_reducible repeat (first | apply Kd.R_alloc | apply Kd.R_drewN | apply Kd.R_drew));exact HO130.out) hb);have n6_ := Aside0.mk (below_step (by repeat (first | (with_reducible first | exact HB.out | apply below_alloc | apply pw_below_drewN | apply below_drew1) | exact HB.out)) hb);clear HO_6;clear HO_8;clear HO_9;clear HO_10;clear HO126;clear HO130;clear HB;have HO_6 := n0_;have HO_8 := n1_;have HO_9 := n2_;have HO_10 := n3_;have HO126 := n4_;have HO130 := n5_;have HB := n6_;clear n0_ n1_ n2_ n3_ n4_ n5_ n6_;(try clear hb);(try clear hb2);(try clear hk);(try clear hi)))
        go_ret
        exact ⟨by first | rfl | (simp [errW_none,errW_some,IntKind.wrap_i64,wrap64];done) | (simp [errW_none,errW_some] <;> rfl) | (simp [*,errW_none,errW_some] <;> rfl),by repeat (first | (with_reducible first | exact HB.out | apply below_alloc | apply pw_below_drewN | apply below_drew1) | exact HB.out)⟩
      ·replace c35 := Bool.eq_false_iff.mpr c35;subst c35
       have H1 : (some false) = some r := by rw [if_neg (show ¬ (false = true) by decide)] at H;exact H
       clear H;have H := H1;clear H1;obtain rfl := Option.some.inj H
       go_wp2_with (first | ((with_reducible refine gate_callee (f := 21) rfl ?_);refine goesL_ (some 56) rfl rfl Try.func21 (by kernel_rfl) rfl #[.slice A0 l0.length c0] rfl (by (try simp only [List.map_toArray,List.map_cons,List.map_nil]);first | done | rfl | (simp only [List.length_drop,List.length_take];rfl)) ?_;(with_reducible refine (laws_toLog.calls kj12 _ _ l0 t124 _ ?side1 ?side2 A33.out).mono ?_);(case side1 => repeat (first | exact (Kd.C_below HR0.out HB.out) | (with_reducible refine Kd.C_alloc ?_ _) | (with_reducible refine Kd.C_drewN ?_ _) | (with_reducible refine Kd.C_drew ?_)));(case side2 => exact HC0.out);rintro e w97 ⟨v125,rfl,ho0,hb⟩;refine ⟨_,rfl,?_⟩;have n0_ := Aside0.mk (Kd.R_below (by (with_reducible repeat (first | apply Kd.R_alloc | apply Kd.R_drewN | apply Kd.R_drew));exact HO_6.out) hb);have n1_ := Aside0.mk (Kd.R_elder' (by (with_reducible repeat (first | apply Kd.R_alloc | apply Kd.R_drewN | apply Kd.R_drew));exact HO_8.out) (Kd.R_base ho0) hb);have n2_ := Aside0.mk (Kd.R_elder' (by (with_reducible repeat (first | apply Kd.R_alloc | apply Kd.R_drewN | apply Kd.R_drew));exact HO_9.out) (Kd.R_base ho0) hb);have n3_ := Aside0.mk (Kd.R_below (by (with_reducible repeat (first | apply Kd.R_alloc | apply Kd.R_drewN | apply Kd.R_drew));exact HO_10.out) hb);have n4_ := Aside0.mk (Kd.R_lower (Kd.R_new' (Kd.R_new' ho0 (Kd.R_lt (by (with_reducible repeat (first | apply Kd.R_alloc | apply Kd.R_drewN | apply Kd.R_drew));exact HO_8.out))) (Kd.R_lt (by (with_reducible repeat (first | apply Kd.R_alloc | apply Kd.R_drewN | apply Kd.R_drew));exact HO_9.out))) (below_size (by repeat (first | (with_reducible first | exact HB.out | apply below_alloc | apply pw_below_drewN | apply below_drew1) | exact HB.out))));have n5_ := Aside0.mk (below_step (by repeat (first | (with_reducible first | exact HB.out | apply below_alloc | apply pw_below_drewN | apply below_drew1) | exact HB.out)) hb);clear HO_6;clear HO_8;clear HO_9;clear HO_10;clear HB;have HO_6 := n0_;have HO_8 := n1_;have HO_9 := n2_;have HO_10 := n3_;have HO126 := n4_;have HB := n5_;clear n0_ n1_ n2_ n3_ n4_ n5_;(try clear hb);(try clear hb2);(try clear hk);(try clear hi);(try clear ho0);obtain ⟨Ao98,co98,eo98⟩ := Kd.R_slice HO126.out;subst eo98) | ((with_reducible refine gate_callee (f := 23) rfl ?_);refine goesL_ (some 57) rfl rfl Try.func23 (by kernel_rfl) rfl #[.slice Ao21 t113.length co21,.slice Ao98 t124.length co98] rfl (by (try simp only [List.map_toArray,List.map_cons,List.map_nil]);first | done | rfl | (simp only [List.length_drop,List.length_take];rfl)) ?_;(with_reducible refine (laws_eqLog.calls kj12 _ _ t113 _ _ t124 false _ ?side1 ?side2 ?side3 ?side4 A34.out).mono ?_);(case side1 => repeat (first | exact (Kd.R_reads' HO_8.out).2.2 | (with_reducible refine Kd.C_alloc ?_ _) | (with_reducible refine Kd.C_drewN ?_ _) | (with_reducible refine Kd.C_drew ?_)));(case side2 => exact (Kd.R_reads' HO_8.out).2.1);(case side3 => repeat (first | exact (Kd.R_reads' HO126.out).2.2 | (with_reducible refine Kd.C_alloc ?_ _) | (with_reducible refine Kd.C_drewN ?_ _) | (with_reducible refine Kd.C_drew ?_)));(case side4 => exact (Kd.R_reads' HO126.out).2.1);rintro e w99 ⟨rfl,hb⟩;refine ⟨_,rfl,?_⟩;have n0_ := Aside0.mk (Kd.R_below (by (with_reducible repeat (first | apply Kd.R_alloc | apply Kd.R_drewN | apply Kd.R_drew));exact HO_6.out) hb);have n1_ := Aside0.mk (Kd.R_below (by (with_reducible repeat (first | apply Kd.R_alloc | apply Kd.R_drewN | apply Kd.R_drew));exact HO_8.out) hb);have n2_ := Aside0.mk (Kd.R_below (by (with_reducible repeat (first | apply Kd.R_alloc | apply Kd.R_drewN | apply Kd.R_drew));exact HO_9.out) hb);have n3_ := Aside0.mk (Kd.R_below (by (with_reducible repeat (first | apply Kd.R_alloc | apply Kd.R_drewN | apply Kd.R_drew));exact HO_10.out) hb);have n4_ := Aside0.mk (Kd.R_below (by (with_reducible repeat (first | apply Kd.R_alloc | apply Kd.R_drewN | apply Kd.R_drew));exact HO126.out) hb);have n5_ := Aside0.mk (below_step (by repeat (first | (with_reducible first | exact HB.out | apply below_alloc | apply pw_below_drewN | apply below_drew1) | exact HB.out)) hb);clear HO_6;clear HO_8;clear HO_9;clear HO_10;clear HO126;clear HB;have HO_6 := n0_;have HO_8 := n1_;have HO_9 := n2_;have HO_10 := n3_;have HO126 := n4_;have HB := n5_;clear n0_ n1_ n2_ n3_ n4_ n5_;(try clear hb);(try clear hb2);(try clear hk);(try clear hi)))
       go_ret
       exact ⟨by first | rfl | (simp [errW_none,errW_some,IntKind.wrap_i64,wrap64];done) | (simp [errW_none,errW_some] <;> rfl) | (simp [*,errW_none,errW_some] <;> rfl),by repeat (first | (with_reducible first | exact HB.out | apply below_alloc | apply pw_below_drewN | apply below_drew1) | exact HB.out)⟩
end Go.Proofs.Ytidkniacmcbgiaa.G
end

section
namespace Go.Proofs.Ytidkniacmcbgiaa.G
open Go.RowKit Go.Proofs.YtidkniacmcbgiaaW.PrintWords Go.Proofs.YtidkniacmcbgiaaW.PrintLast Go.Proofs.YtidkniacmcbgiaaW.PrintMore
attribute [local go_sem] max2_int min2_int max_two min_two max_three min_three max_four min_four
set_option linter.unusedVariables false
set_option linter.unusedSimpArgs false
open Go.ChangeShapes Go.WideShapes Go.Deep in
structure Opens {α : Type} (P : Program) (t : TypeId) (d : Kd α) (Wf : α → Prop) : Prop where
  sz : P.cellsOf t = d.sz
  op : ∀ {H : Type} {enc : TypeId × Value → H} {w : World} {base : Nat} {spare : Nat → Bool} {held : Bool} {fuel : Nat} {cs : List Value} {x : DataW H × List MemPlace}, DataW.trod enc P w base spare held fuel t cs = some x → ∃ a : α, d.K w a cs ∧ Wf a
theorem opens_int {P : Program} {t : TypeId} {k : IntKind} (ht : P.underlying t = some (.int k)) (hC : P.cellsOf t = 1) : Opens P t (Kd.int k) (fun n => (Lit.int k n).wf = true) where
  sz := hC
  op := fun h => by
    obtain ⟨n, rfl, _, hw⟩ := DataW.trod_int ht h
    exact ⟨n, rfl, hw⟩
theorem opens_bool {P : Program} {t : TypeId} (ht : P.underlying t = some .bool) (hC : P.cellsOf t = 1) : Opens P t Kd.bool (fun _ => True) where
  sz := hC
  op := fun h => by
    obtain ⟨n, rfl, _⟩ := DataW.trod_bool ht h
    exact ⟨n, rfl, trivial⟩
theorem list_of {α : Type} {Q : Nat → α → Prop} : ∀ n, (∀ i, i < n → ∃ y, Q i y) → ∃ l : List α, l.length = n ∧ ∀ i y, l[i]? = some y → Q i y
  | 0, _ => ⟨[], rfl, fun i y h => by simp at h⟩
  | n + 1, h => by
    obtain ⟨l, hl, hq⟩ := list_of n (fun i hi => h i (by omega))
    obtain ⟨y, hy⟩ := h n (by omega)
    refine ⟨l ++ [y], by simp [hl], fun i z hz => ?_⟩
    rcases Nat.lt_or_ge i l.length with hi | hi
    · rw [List.getElem?_append_left hi] at hz
      exact hq i z hz
    · rw [List.getElem?_append_right hi] at hz
      have : i - l.length = 0 := by
        rcases Nat.eq_zero_or_pos (i - l.length) with h0 | h0
        · exact h0
        · rw [List.getElem?_eq_none (by simp; omega)] at hz
          cases hz
      rw [this] at hz
      have e : y = z := by simpa using hz
      subst e
      have : i = n := by omega
      subst this
      exact hy
theorem opens_slice {α : Type} {P : Program} {t e : TypeId} {d : Kd α} {Wf : α → Prop} (ht : P.underlying t = some (.slice e)) (hC : P.cellsOf t = 1) (he : Opens P e d Wf) : Opens P t (Kd.slice e d) (fun l => l.length ≤ 9223372036854775807 ∧ ∀ x ∈ l, Wf x) where
  sz := hC
  op := fun {H enc w base spare held fuel cs x} h => by
    rcases Go.Deep.open_slice ht h with ⟨rfl, _⟩ | ⟨a, len, cap, m, n, D, Pl, rfl, hb, hl, hm, hmm, _, hi⟩
    · exact ⟨[], ⟨none, 0, rfl, Nat.le_refl _, rfl, by simp, fun h => absurd h (by simp)⟩, by simp, by simp⟩
    · have hlen : len ≤ m := by rw [hmm]; split <;> omega
      obtain ⟨l, hll, hq⟩ := list_of (Q := fun i y => (∃ c, c.length = d.sz ∧ d.K w y c ∧ ∀ j u, c[j]? = some u → w.cell? (a.add (i * d.sz + j)) = some u) ∧ Wf y) len (fun i him => by
        obtain ⟨cs', hc, ht'⟩ := hi i (by omega)
        obtain ⟨y, hK, hW⟩ := he.op ht'
        obtain ⟨_, hcl, hat⟩ := World.cells?_some hc
        refine ⟨y, ⟨cs', d.K_len hK, hK, fun j u hu => ?_⟩, hW⟩
        have hj : j < cs'.length := (List.getElem?_eq_some_iff.1 hu).1
        have h1 := hat j (by rw [he.sz, ← d.K_len hK]; exact hj)
        rw [← he.sz, ← Go.Deep.add_add, h1, hu])
      refine ⟨l, ⟨some a, cap, by rw [hll], by rw [hll]; exact hl, rfl, by rw [hll]; have := hm; unfold maxLen at this; omega, fun _ => ⟨a, rfl, fun j p hj => (hq j p hj).1⟩⟩, by rw [hll]; have := hm; unfold maxLen at this; omega, fun y hy => ?_⟩
      obtain ⟨j, hj, rfl⟩ := List.mem_iff_getElem.1 hy
      exact (hq j _ (List.getElem?_eq_getElem hj)).2
def offs (P : Program) : List TypeId → Nat → Nat
  | [], _ => 0
  | _ :: _, 0 => 0
  | t :: ts, i + 1 => P.cellsOf t + offs P ts i
def OpensF {α : Type} (P : Program) (ts : List TypeId) (d : Kd α) (Wf : α → Prop) : Prop :=
  ∀ {H : Type} {enc : TypeId × Value → H} {w : World} {base : Nat} {spare : Nat → Bool} {held : Bool} {n : Nat} {cs : List Value}, cs.length = d.sz → (∀ i t, ts[i]? = some t → ∃ x, DataW.trod enc P w base spare held n t ((cs.drop (offs P ts i)).take (P.cellsOf t)) = some x) → ∃ a : α, d.K w a cs ∧ Wf a
theorem opensF_one {α : Type} {P : Program} {t : TypeId} {d : Kd α} {Wf : α → Prop} (h : Opens P t d Wf) : OpensF P [t] d Wf := fun {H enc w base spare held n cs} hl hf => by
  obtain ⟨x, hx⟩ := hf 0 t rfl
  simp only [offs, List.drop_zero] at hx
  rw [List.take_of_length_le (by rw [hl, h.sz]; exact Nat.le_refl _)] at hx
  exact h.op hx
theorem opensF_cons {α β : Type} {P : Program} {t : TypeId} {ts : List TypeId} {d : Kd α} {d' : Kd β} {Wf : α → Prop} {Wf' : β → Prop} (h : Opens P t d Wf) (h' : OpensF P ts d' Wf') : OpensF P (t :: ts) (Kd.pair d d') (fun x => Wf x.1 ∧ Wf' x.2) := fun {H enc w base spare held n cs} hl hf => by
  have hl' : cs.length = d.sz + d'.sz := hl
  obtain ⟨x, hx⟩ := hf 0 t rfl
  simp only [offs, List.drop_zero] at hx
  obtain ⟨a, hK, hW⟩ := h.op hx
  obtain ⟨b, hK', hW'⟩ := h' (enc := enc) (w := w) (base := base) (spare := spare) (held := held) (n := n) (cs := cs.drop d.sz) (by rw [List.length_drop, hl']; omega) (fun i t' ht' => by
    obtain ⟨y, hy⟩ := hf (i + 1) t' (by simpa using ht')
    refine ⟨y, ?_⟩
    rw [List.drop_drop]
    simpa only [offs, h.sz] using hy)
  refine ⟨(a, b), ⟨_, _, (List.take_append_drop d.sz cs).symm, ?_, hK'⟩, hW, hW'⟩
  rw [← h.sz]
  exact hK
theorem opens_struct {α β : Type} {P : Program} {t : TypeId} {fs : Array Field} {d : Kd α} {Wf : α → Prop} (f : β → α) (g : α → β) (hfg : ∀ a, f (g a) = a) (ht : P.underlying t = some (.struct fs)) (hC : P.cellsOf t = d.sz)
    (ho : ((List.range fs.size).all fun i => decide ((fs[i]?.map Field.offset) = some (offs P (fs.toList.map Field.type) i))) = true) (h : OpensF P (fs.toList.map Field.type) d Wf) : Opens P t (Kd.iso d f) (fun x => Wf (f x)) where
  sz := hC
  op := fun {H enc w base spare held fuel cs x} hx => by
    obtain ⟨xs, n, _, _, hlen, hxl, hf⟩ := DataW.trod_struct ht hx
    obtain ⟨a, hK, hW⟩ := h (enc := enc) (w := w) (base := base) (spare := spare) (held := held) (n := n) (cs := cs) (by rw [hlen, hC]) (fun i t' ht' => by
      have hi : i < fs.size := by
        have := (List.getElem?_eq_some_iff.1 ht').1
        simpa using this
      have e : fs[i]? = some fs[i] := Array.getElem?_eq_getElem hi
      have et : fs[i].type = t' := by
        rw [List.getElem?_map] at ht'
        have : fs.toList[i]? = some fs[i] := by simp [hi]
        rw [this] at ht'
        simpa using ht'
      have eo := of_decide_eq_true (List.all_eq_true.1 ho i (List.mem_range.2 hi))
      rw [e] at eo
      have eo' : fs[i].offset = offs P (fs.toList.map Field.type) i := by simpa using eo
      have h1 := hf i fs[i] e
      rw [et, eo'] at h1
      exact ⟨_, h1.trans (List.getElem?_eq_getElem (show i < xs.length by omega))⟩)
    exact ⟨g a, by show d.K w (f (g a)) cs; rw [hfg]; exact hK, by show Wf (f (g a)); rw [hfg]; exact hW⟩
theorem op2 : Opens Try.prog 2 (Kd.int .i64) (fun x : Int => (Lit.int .i64 x).wf = true) := opens_int (k := .i64) Try.underlying2 (by kernel_rfl)
theorem op4 : Opens Try.prog 4 Kd.bool (fun x : Bool => True) := opens_bool Try.underlying4 (by kernel_rfl)
theorem op75 : Opens Try.prog 75 k75 (fun x : S75 => (Lit.int .i64 x.f0).wf = true ∧ (Lit.int .i64 x.f1).wf = true ∧ True) := opens_struct (fun x : S75 => (x.f0, x.f1, x.f2)) (fun a => ⟨a.1, a.2.1, a.2.2⟩) (fun _ => rfl) Try.underlying75 (by kernel_rfl) (by kernel_rfl) (opensF_cons op2 (opensF_cons op2 (opensF_one op4)))
theorem op22 : Opens Try.prog 22 (Kd.slice 75 k75) (fun x : List (S75) => (x.length ≤ 9223372036854775807 ∧ ∀ x_ ∈ x, (Lit.int .i64 x_.f0).wf = true ∧ (Lit.int .i64 x_.f1).wf = true ∧ True)) := opens_slice Try.underlying22 (by kernel_rfl) op75
end Go.Proofs.Ytidkniacmcbgiaa.G
end

section
namespace Go.Proofs.Ytidkniacmcbgiaa.G.Pure
open Go.RowKit Go.Proofs.Ytidkniacmcbgiaa.G Go.Proofs.YtidkniacmcbgiaaW.PrintWords Go.Proofs.YtidkniacmcbgiaaW.PrintLast Go.Proofs.YtidkniacmcbgiaaW.PrintMore
set_option linter.unusedVariables false
set_option linter.unusedSimpArgs false
theorem w64 {n : Int} (h0 : -9223372036854775808 ≤ n) (h1 : n ≤ 9223372036854775807) : wrap64 n = n := by
 unfold wrap64
 omega
theorem loop_inv {σ γ : Type} (L : Nat → σ → Option γ) (n : Nat) (I : Nat → σ → Prop) (R : γ → Prop)
  (hs : ∀ k i s,i < n → I i s → (∃ s',I (i + 1) s' ∧ L (k + 1) s = L k s') ∨ (∃ r,R r ∧ L (k + 1) s = some r))
  (he : ∀ k s,I n s → ∃ r,R r ∧ L (k + 1) s = some r) : ∀ k s,I 0 s → n < k → ∃ r,R r ∧ L k s = some r := by
 have go : ∀ d i k s,i + d = n → I i s → d < k → ∃ r,R r ∧ L k s = some r := by
  intro d
  induction d with
  | zero =>
   intro i k s hi hI hk
   obtain ⟨k,rfl⟩ : ∃ m,k = m + 1 := ⟨k - 1,by omega⟩
   obtain rfl : i = n := by omega
   exact he k s hI
  | succ d ih =>
   intro i k s hi hI hk
   obtain ⟨k,rfl⟩ : ∃ m,k = m + 1 := ⟨k - 1,by omega⟩
   rcases hs k i s (by omega) hI with ⟨s',hI',h⟩ | h
   ·rw [h]
    exact ih (i + 1) k s' (by omega) hI' (by omega)
   ·exact h
 intro k s hI hk
 exact go n 0 k s (by omega) hI hk
theorem take_set_succ {α : Type} {l : List α} {i : Nat} (h : i < l.length) (v : α) : (l.set i v).take (i + 1) = l.take i ++ [v] := by
 rw [List.take_succ_eq_append_getElem (by simpa using h)]
 simp [List.take_set_of_le]
theorem rd_nat {l : List Int} {i : Nat} (h : i < l.length) : rd l (i : Int) = l[i] := by
 simp [rd,List.getD_eq_getElem?_getD,List.getElem?_eq_getElem h]
end Go.Proofs.Ytidkniacmcbgiaa.G.Pure
end

section
namespace Go.Proofs.Ytidkniacmcbgiaa.G.Pure
open Go.RowKit Go.Proofs.Ytidkniacmcbgiaa.G Go.Proofs.YtidkniacmcbgiaaW.PrintWords Go.Proofs.YtidkniacmcbgiaaW.PrintLast Go.Proofs.YtidkniacmcbgiaaW.PrintMore
set_option linter.unusedVariables false
set_option linter.unusedSimpArgs false
abbrev En := S73
def entryOf (x : S75) : En := ⟨x.f0,x.f1,x.f2⟩
theorem szLog_eq (l : List (S75)) (a : Int) (h0 : 0 ≤ a) (h1 : a ≤ 1048576) (hl : l.length ≤ 9223372036854775807) : laws_szLog.f l a = some (if a - l.length < 0 then -1 else a - l.length) := by
 unfold laws_szLog.f
 rw [w64 (by omega) (by omega)]
 split <;> rfl
theorem rd_laws_Entry {l : List (S75)} {i : Nat} (h : i < l.length) : rd_T75 l (i : Int) = l[i] := by
 simp [rd_T75,List.getD_eq_getElem?_getD,List.getElem?_eq_getElem h]
theorem toLog_eq (k : Nat) (l : List (S75)) (hl : l.length ≤ 1048576) (hk : l.length < k) : laws_toLog.f k l = some (l.map entryOf) := by
 unfold laws_toLog.f
 rw [if_pos (by omega),if_pos (by omega)]
 obtain ⟨r,hr,h⟩ := loop_inv (fun k (s : List En × Int) => laws_toLog.l0 k l s.1 s.2) l.length (fun i s => s.2 = (i : Int) ∧ s.1.length = l.length ∧ s.1.take i = (l.map entryOf).take i) (fun r => r = l.map entryOf)
  (fun k i s hi ⟨h1,h2,h3⟩ => by
   obtain ⟨acc,x⟩ := s
   simp only at h1 h2 h3
   subst h1
   refine .inl ⟨(acc.set i (entryOf l[i]),((i + 1 : Nat) : Int)),⟨rfl,by simpa using h2,?_⟩,?_⟩
   ·rw [take_set_succ (by omega),h3,List.take_succ_eq_append_getElem (by simpa using hi)]
    simp
   ·simp only [laws_toLog.l0]
    rw [if_pos (by omega),if_pos (by omega),rd_laws_Entry hi]
    simp only [laws_toEntry.f,Option.bind_some]
    rw [if_pos (by omega),w64 (by omega) (by omega)]
    rfl)
  (fun k s ⟨h1,h2,h3⟩ => by
   obtain ⟨acc,x⟩ := s
   simp only at h1 h2 h3
   subst h1
   refine ⟨acc,?_,?_⟩
   ·rw [List.take_of_length_le (by omega),List.take_of_length_le (by simp)] at h3
    exact h3
   ·simp only [laws_toLog.l0]
    rw [if_neg (by omega)]) k (List.replicate l.length z73,0) ⟨rfl,by simp,by simp⟩ hk
 subst hr
 simpa using h
theorem eqEntry_self (a : En) : laws_eqEntry.f a.f0 a.f1 a.f2 a.f0 a.f1 a.f2 = some true := by
 simp [laws_eqEntry.f]
theorem eqLog_self (k : Nat) (a : List En) (hl : a.length ≤ 1048576) (hk : a.length < k) : laws_eqLog.f k a a = some true := by
 unfold laws_eqLog.f
 rw [if_pos rfl]
 obtain ⟨r,hr,h⟩ := loop_inv (fun k (s : Int) => laws_eqLog.l0 k a a s) a.length (fun i s => s = (i : Int)) (fun r => r = true)
  (fun k i s hi h1 => by
   subst h1
   refine .inl ⟨((i + 1 : Nat) : Int),rfl,?_⟩
   simp only [laws_eqLog.l0]
   rw [if_pos (by omega),if_pos (by omega),if_pos (by omega),eqEntry_self]
   simp only [Option.bind_some,if_true]
   rw [w64 (by omega) (by omega)]
   rfl)
  (fun k s h1 => by
   subst h1
   refine ⟨true,rfl,?_⟩
   simp only [laws_eqLog.l0]
   rw [if_neg (by omega)]) k 0 rfl hk
 subst hr
 exact h
theorem rd_impl_Entry {l : List En} {i : Nat} (h : i < l.length) : rd_T73 l (i : Int) = l[i] := by
 simp [rd_T73,List.getD_eq_getElem?_getD,List.getElem?_eq_getElem h]
theorem rd_set_Entry {l : List En} {i : Nat} (h : i < l.length) (v : En) : rd_T73 (l.set i v) (i : Int) = v := by
 rw [rd_impl_Entry (by simpa using h)]
 simp
end Go.Proofs.Ytidkniacmcbgiaa.G.Pure
end

section
namespace Go.Proofs.Ytidkniacmcbgiaa.G.Pure
open Go.RowKit Go.Proofs.Ytidkniacmcbgiaa.G Go.Proofs.YtidkniacmcbgiaaW.PrintWords Go.Proofs.YtidkniacmcbgiaaW.PrintLast Go.Proofs.YtidkniacmcbgiaaW.PrintMore
set_option linter.unusedVariables false
set_option linter.unusedSimpArgs false
abbrev St := S100
theorem eqStep_self (a   : St) : laws_eqStep.f a.f0 a.f1 a.f0 a.f1 = some true := by
 simp [laws_eqStep.f]
theorem eqStepS_self (k : Nat) (a : List St) (hl : a.length ≤ 1048576) (hk : a.length < k) : laws_eqStepS.f k a a = some true := by
 unfold laws_eqStepS.f
 rw [if_pos rfl]
 obtain ⟨r,hr,h⟩ := loop_inv (fun k (s : Int) => laws_eqStepS.l0 k a a s) a.length (fun i s => s = (i : Int)) (fun r => r = true)
  (fun k i s hi h1 => by
   subst h1
   refine .inl ⟨((i + 1 : Nat) : Int),rfl,?_⟩
   simp only [laws_eqStepS.l0]
   rw [if_pos (by omega),if_pos (by omega),if_pos (by omega),eqStep_self]
   simp only [Option.bind_some,if_true]
   rw [w64 (by omega) (by omega)]
   rfl)
  (fun k s h1 => by
   subst h1
   refine ⟨true,rfl,?_⟩
   simp only [laws_eqStepS.l0]
   rw [if_neg (by omega)]) k 0 rfl hk
 subst hr
 exact h
theorem rd_impl_Step {l : List St} {i : Nat} (h : i < l.length) : rd_T100 l (i : Int) = l[i] := by
 simp [rd_T100,List.getD_eq_getElem?_getD,List.getElem?_eq_getElem h]
theorem rd_set_Step {l : List St} {i : Nat} (h : i < l.length) (v : St) : rd_T100 (l.set i v) (i : Int) = v := by
 rw [rd_impl_Step (by simpa using h)]
 simp
end Go.Proofs.Ytidkniacmcbgiaa.G.Pure
end

section
namespace Go.Proofs.Ytidkniacmcbgiaa.G.Pure
open Go.RowKit Go.Proofs.Ytidkniacmcbgiaa.G Go.Proofs.YtidkniacmcbgiaaW.PrintWords Go.Proofs.YtidkniacmcbgiaaW.PrintLast Go.Proofs.YtidkniacmcbgiaaW.PrintMore
set_option linter.unusedVariables false
set_option linter.unusedSimpArgs false
def agr (a b : List En) (i k : Nat) : Bool := decide ((rd_T73 a (i : Int)).f1 = (rd_T73 b (k : Int)).f1) && decide ((rd_T73 a (i : Int)).f2 = (rd_T73 b (k : Int)).f2)
def lcsW (a b : List En) : Nat → Nat → Int
 | 0,_ => 0
 | _ + 1,0 => 0
 | p + 1,q + 1 => if agr a b (a.length - (p + 1)) (b.length - (q + 1)) = true then lcsW a b p q + 1 else mx (lcsW a b p (q + 1)) (lcsW a b (p + 1) q)
def lcsV (a b : List En) (i k : Nat) : Int := lcsW a b (a.length - i) (b.length - k)
theorem mx_ge (x y : Int) : x ≤ mx x y ∧ y ≤ mx x y ∧ (mx x y = x ∨ mx x y = y) := by
 unfold mx
 split <;> refine ⟨?_,?_,?_⟩ <;> first | omega | exact .inl rfl | exact .inr rfl
theorem lcsW_step (a b : List En) : ∀ p q,(lcsW a b (p + 1) q ≤ lcsW a b p q + 1 ∧ lcsW a b p q ≤ lcsW a b (p + 1) q) ∧ lcsW a b p (q + 1) ≤ lcsW a b p q + 1 ∧ lcsW a b p q ≤ lcsW a b p (q + 1) := by
 intro p
 induction p with
 | zero =>
  intro q
  have h0 : ∀ q,lcsW a b 0 q = 0 := fun q => by rw [lcsW]
  have h1 : ∀ q,lcsW a b 1 q ≤ 1 ∧ 0 ≤ lcsW a b 1 q := by
   intro q
   induction q with
   | zero => rw [lcsW];omega
   | succ q ih =>
    rw [lcsW,h0,h0]
    simp only [Nat.zero_add]
    have := mx_ge 0 (lcsW a b 1 q)
    split <;> omega
  have := h1 q
  rw [h0,h0]
  simp only [Nat.zero_add]
  omega
 | succ p ihp =>
  intro q
  induction q with
  | zero =>
   have e : ∀ p,lcsW a b p 0 = 0 := fun p => by cases p <;> rw [lcsW]
   have h1 := (ihp 0).2
   have h2 := (ihp 1).1
   have h3 := (ihp 0).1
   rw [e] at h1 h3
   rw [e,e]
   refine ⟨by omega,?_⟩
   rw [lcsW,e]
   have := mx_ge (lcsW a b p (0 + 1)) (lcsW a b (p + 1) 0)
   rw [e] at this
   rw [e]
   split <;> omega
  | succ q ihq =>
   obtain ⟨⟨a1,a2⟩,a3,a4⟩ := ihp q
   obtain ⟨⟨b1,b2⟩,b3,b4⟩ := ihp (q + 1)
   obtain ⟨⟨c1,c2⟩,c3,c4⟩ := ihq
   have key : ∀ p q,(lcsW a b (p + 1) q ≤ lcsW a b p q + 1 ∧ lcsW a b p q ≤ lcsW a b (p + 1) q) → (lcsW a b p (q + 1) ≤ lcsW a b p q + 1 ∧ lcsW a b p q ≤ lcsW a b p (q + 1)) → (lcsW a b (p + 1) (q + 1) ≤ lcsW a b p (q + 1) + 1 ∧ lcsW a b p (q + 1) ≤ lcsW a b (p + 1) (q + 1)) ∧ (lcsW a b (p + 1) (q + 1) ≤ lcsW a b (p + 1) q + 1 ∧ lcsW a b (p + 1) q ≤ lcsW a b (p + 1) (q + 1)) := by
    intro p q h1 h2
    rw [lcsW]
    have := mx_ge (lcsW a b p (q + 1)) (lcsW a b (p + 1) q)
    split <;> omega
   have k1 := key (p + 1) q ⟨c1,c2⟩ ⟨c3,c4⟩
   have k2 := key p (q + 1) ⟨b1,b2⟩ ⟨b3,b4⟩
   exact ⟨k1.1,k2.2⟩
theorem lcsV_end {a b : List En} {i k : Nat} (h : a.length ≤ i ∨ b.length ≤ k) : lcsV a b i k = 0 := by
 unfold lcsV
 rcases h with h | h
 ·rw [show a.length - i = 0 by omega,lcsW]
 ·rw [show b.length - k = 0 by omega]
  cases a.length - i <;> rw [lcsW]
theorem lcsV_in {a b : List En} {i k : Nat} (hi : i < a.length) (hk : k < b.length) : lcsV a b i k = if agr a b i k = true then lcsV a b (i + 1) (k + 1) + 1 else mx (lcsV a b (i + 1) k) (lcsV a b i (k + 1)) := by
 unfold lcsV
 obtain ⟨p,hp⟩ : ∃ p,a.length - i = p + 1 := ⟨a.length - i - 1,by omega⟩
 obtain ⟨q,hq⟩ : ∃ q,b.length - k = q + 1 := ⟨b.length - k - 1,by omega⟩
 rw [hp,hq,lcsW,show a.length - (i + 1) = p by omega,show b.length - (k + 1) = q by omega,show a.length - (p + 1) = i by omega,show b.length - (q + 1) = k by omega]
theorem lcsV_i {a b : List En} (i k : Nat) : lcsV a b i k ≤ lcsV a b (i + 1) k + 1 ∧ lcsV a b (i + 1) k ≤ lcsV a b i k := by
 unfold lcsV
 rcases Nat.lt_or_ge i a.length with h | h
 ·obtain ⟨p,hp⟩ : ∃ p,a.length - i = p + 1 := ⟨a.length - i - 1,by omega⟩
  rw [hp,show a.length - (i + 1) = p by omega]
  exact (lcsW_step a b p _).1
 ·rw [show a.length - i = 0 by omega,show a.length - (i + 1) = 0 by omega]
  omega
theorem lcsV_k {a b : List En} (i k : Nat) : lcsV a b i k ≤ lcsV a b i (k + 1) + 1 ∧ lcsV a b i (k + 1) ≤ lcsV a b i k := by
 unfold lcsV
 rcases Nat.lt_or_ge k b.length with h | h
 ·obtain ⟨q,hq⟩ : ∃ q,b.length - k = q + 1 := ⟨b.length - k - 1,by omega⟩
  rw [hq,show b.length - (k + 1) = q by omega]
  exact (lcsW_step a b _ q).2
 ·rw [show b.length - k = 0 by omega,show b.length - (k + 1) = 0 by omega]
  omega
theorem lcsV_b {a b : List En} (i k : Nat) : 0 ≤ lcsV a b i k ∧ lcsV a b i k ≤ (a.length : Int) := by
 have h : ∀ d i,i + d = a.length → 0 ≤ lcsV a b i k ∧ lcsV a b i k ≤ (d : Int) := by
  intro d
  induction d with
  | zero =>
   intro i hi
   rw [lcsV_end (.inl (by omega))]
   omega
  | succ d ih =>
   intro i hi
   have := ih (i + 1) (by omega)
   have := lcsV_i (a := a) (b := b) i k
   omega
 rcases Nat.lt_or_ge i a.length with hi | hi
 ·have := h (a.length - i) i (by omega)
  omega
 ·rw [lcsV_end (.inl hi)]
  omega
theorem lcs_pick {a b : List En} {i : Nat} (hi : i < a.length) : ∀ d k,k + d = b.length → lcsV a b i k = lcsV a b (i + 1) k ∨ ∃ m,k ≤ m ∧ m < b.length ∧ agr a b i m = true ∧ lcsV a b (i + 1) (m + 1) = lcsV a b i k - 1 := by
 intro d
 induction d with
 | zero =>
  intro k hk
  left
  rw [lcsV_end (.inr (by omega)),lcsV_end (.inr (by omega))]
 | succ d ih =>
  intro k hk
  have hv := lcsV_in (a := a) (b := b) hi (show k < b.length by omega)
  by_cases hag : agr a b i k = true
  ·rw [if_pos hag] at hv
   exact .inr ⟨k,Nat.le_refl _,by omega,hag,by omega⟩
  ·rw [if_neg hag] at hv
   have m := mx_ge (lcsV a b (i + 1) k) (lcsV a b i (k + 1))
   have h1 := lcsV_k (a := a) (b := b) (i + 1) k
   rcases m.2.2 with e | e
   ·left
    omega
   ·rcases ih (k + 1) (by omega) with h | ⟨m',h2,h3,h4,h5⟩
    ·left
     omega
    ·right
     exact ⟨m',by omega,h3,h4,by omega⟩
def pickF (a b : List En) (i k : Nat) (m : Nat) : Bool := decide (k ≤ m) && (agr a b i m && decide (lcsV a b (i + 1) (m + 1) = lcsV a b i k - 1))
def pickAt (a b : List En) (i k : Nat) : Option Nat := (List.range b.length).find? (pickF a b i k)
def picks (a b : List En) : Nat → Nat → List St
 | 0,_ => []
 | d + 1,k => match pickAt a b (a.length - (d + 1)) k with | some m => (⟨((a.length - (d + 1) : Nat) : Int),(m : Int)⟩ : St) :: picks a b d (m + 1) | none => picks a b d k
theorem pickAt_some {a b : List En} {i k m : Nat} (h : pickAt a b i k = some m) : k ≤ m ∧ m < b.length ∧ agr a b i m = true ∧ lcsV a b (i + 1) (m + 1) = lcsV a b i k - 1 ∧ ∀ j,j < m → pickF a b i k j = false := by
 unfold pickAt at h
 rw [List.find?_range_eq_some] at h
 obtain ⟨h1,h2,h3⟩ := h
 unfold pickF at h1
 simp only [Bool.and_eq_true,decide_eq_true_eq] at h1
 exact ⟨h1.1,by simpa using h2,h1.2.1,h1.2.2,fun j hj => by simpa using h3 j hj⟩
theorem pickAt_none {a b : List En} {i k : Nat} (h : pickAt a b i k = none) : ∀ j,j < b.length → pickF a b i k j = false := by
 unfold pickAt at h
 rw [List.find?_eq_none] at h
 intro j hj
 simpa using h j (List.mem_range.2 hj)
theorem pick_pass {a b : List En} {i k : Nat} (hi : i < a.length) (hk : k ≤ b.length) (h : pickAt a b i k = none) : lcsV a b (i + 1) k = lcsV a b i k := by
 rcases lcs_pick (a := a) (b := b) hi (b.length - k) k (by omega) with e | ⟨m,h1,h2,h3,h4⟩
 ·exact e.symm
 ·have := pickAt_none h m h2
  unfold pickF at this
  rw [h3,decide_eq_true h1,decide_eq_true h4] at this
  cases this
theorem picks_zero {a b : List En} : ∀ d k,d ≤ a.length → lcsV a b (a.length - d) k = 0 → k ≤ b.length → picks a b d k = [] := by
 intro d
 induction d with
 | zero => intro k _ _ _;rfl
 | succ d ih =>
  intro k hd h0 hk
  rw [picks]
  cases hp : pickAt a b (a.length - (d + 1)) k with
  | some m =>
   have := (pickAt_some hp).2.2.2.1
   have := lcsV_b (a := a) (b := b) (a.length - (d + 1) + 1) (m + 1)
   omega
  | none =>
   have := pick_pass (a := a) (b := b) (by omega) hk hp
   simp only
   exact ih k (by omega) (by rw [show a.length - d = a.length - (d + 1) + 1 by omega];omega) hk
theorem picks_len {a b : List En} : ∀ d k,(picks a b d k).length ≤ d := by
 intro d
 induction d with
 | zero => intro k;simp [picks]
 | succ d ih =>
  intro k
  rw [picks]
  cases pickAt a b (a.length - (d + 1)) k with
  | some m =>
   have := ih (m + 1)
   simp only [List.length_cons]
   omega
  | none =>
   have := ih k
   simp only
   omega
end Go.Proofs.Ytidkniacmcbgiaa.G.Pure
end

section
namespace Go.Proofs.Ytidkniacmcbgiaa.G.Pure
open Go.RowKit Go.Proofs.Ytidkniacmcbgiaa.G Go.Proofs.YtidkniacmcbgiaaW.PrintWords Go.Proofs.YtidkniacmcbgiaaW.PrintLast Go.Proofs.YtidkniacmcbgiaaW.PrintMore
set_option linter.unusedVariables false
set_option linter.unusedSimpArgs false
theorem loop_acc {β γ : Type} (L : Nat → List β → Int → Option γ) (n : Nat) (g : Nat → List β) (R : List β → γ) (hb : ∀ i,i < n → (g i).length ≤ 1)
  (hs : ∀ k i acc,i < n → acc.length ≤ i → L (k + 1) acc (i : Int) = L k (acc ++ g i) ((i + 1 : Nat) : Int))
  (he : ∀ k acc,acc.length ≤ n → L (k + 1) acc (n : Int) = some (R acc)) : ∀ k,n < k → L k [] 0 = some (R ((List.range n).flatMap g)) := by
 intro k hk
 obtain ⟨r,hr,h⟩ := loop_inv (fun k (s : List β × Int) => L k s.1 s.2) n (fun i s => s.2 = (i : Int) ∧ s.1 = (List.range i).flatMap g ∧ s.1.length ≤ i) (fun r => r = R ((List.range n).flatMap g))
  (fun k i s hi ⟨h1,h2,h3⟩ => by
   obtain ⟨acc,x⟩ := s
   simp only at h1 h2 h3
   subst h1
   refine .inl ⟨(acc ++ g i,((i + 1 : Nat) : Int)),⟨rfl,?_,?_⟩,hs k i acc hi h3⟩
   ·rw [h2,List.range_succ,List.flatMap_append]
    simp
   ·have := hb i hi
    simp only [List.length_append]
    omega)
  (fun k s ⟨h1,h2,h3⟩ => by
   obtain ⟨acc,x⟩ := s
   simp only at h1 h2 h3
   subst h1
   exact ⟨_,by rw [h2],he k acc h3⟩) k ([],0) ⟨rfl,rfl,Nat.zero_le _⟩ hk
 subst hr
 exact h
end Go.Proofs.Ytidkniacmcbgiaa.G.Pure
end

section
namespace Go.Proofs.Ytidkniacmcbgiaa.G.Pure
open Go.RowKit Go.Proofs.Ytidkniacmcbgiaa.G Go.Proofs.YtidkniacmcbgiaaW.PrintWords Go.Proofs.YtidkniacmcbgiaaW.PrintLast Go.Proofs.YtidkniacmcbgiaaW.PrintMore
set_option linter.unusedVariables false
set_option linter.unusedSimpArgs false
theorem loop_inv2 {σ γ : Type} (L : Nat → σ → Option γ) (n K0 : Nat) (I : Nat → σ → Prop) (R : γ → Prop)
  (hs : ∀ k i s,i < n → K0 ≤ k → I i s → (∃ s',I (i + 1) s' ∧ L (k + 1) s = L k s') ∨ (∃ r,R r ∧ L (k + 1) s = some r))
  (he : ∀ k s,K0 ≤ k → I n s → ∃ r,R r ∧ L (k + 1) s = some r) : ∀ k s,I 0 s → n + K0 < k → ∃ r,R r ∧ L k s = some r := by
 have go : ∀ d i k s,i + d = n → I i s → d + K0 < k → ∃ r,R r ∧ L k s = some r := by
  intro d
  induction d with
  | zero =>
   intro i k s hi hI hk
   obtain ⟨k,rfl⟩ : ∃ m,k = m + 1 := ⟨k - 1,by omega⟩
   obtain rfl : i = n := by omega
   exact he k s (by omega) hI
  | succ d ih =>
   intro i k s hi hI hk
   obtain ⟨k,rfl⟩ : ∃ m,k = m + 1 := ⟨k - 1,by omega⟩
   rcases hs k i s (by omega) (by omega) hI with ⟨s',hI',h⟩ | h
   ·rw [h]
    exact ih (i + 1) k s' (by omega) hI' (by omega)
   ·exact h
 intro k s hI hk
 exact go n 0 k s (by omega) hI (by omega)
end Go.Proofs.Ytidkniacmcbgiaa.G.Pure
end

section
namespace Go.Proofs.Ytidkniacmcbgiaa.G.Pure
open Go.RowKit Go.Proofs.Ytidkniacmcbgiaa.G Go.Proofs.YtidkniacmcbgiaaW.PrintWords Go.Proofs.YtidkniacmcbgiaaW.PrintLast Go.Proofs.YtidkniacmcbgiaaW.PrintMore
set_option linter.unusedVariables false
set_option linter.unusedSimpArgs false
def atE (l : List En) (i : Nat) (out : List Int) : Int := impl_Log_up.at l (rd_T73 l (i : Int)) out
def upsStep (l : List En) (i : Nat) (out : List Int) : Option (List Int) :=
  if decide (atE l i out < 0) = (rd_T73 l (i : Int)).f2 then none else if (rd_T73 l (i : Int)).f2 = true then some (out.eraseIdx (atE l i out).toNat) else some (out ++ [(i : Int)])
def ups (l : List En) : Nat → Option (List Int)
  | 0 => some []
  | n + 1 => (ups l n).bind (upsStep l n)
def lastT (l : List En) : Nat → Int
  | 0 => 0
  | n + 1 => (rd_T73 l (n : Int)).f0
def gd (l : List En) : Nat → Bool
  | 0 => true
  | n + 1 => gd l n && impl_Log_up.good (lastT l n) (rd_T73 l (n : Int))
theorem to_eq (l : List En) (n : Nat) : impl_Log_up.to l n = if gd l n = true then (ups l n).map (fun o => (lastT l n, o)) else none := by
  induction n with
  | zero => rfl
  | succ n ih =>
    rw [impl_Log_up.to, ih, ups, gd]
    cases hg : gd l n with
    | false => simp
    | true =>
      cases hu : ups l n with
      | none => simp
      | some o =>
        simp only [if_true, Option.map_some, Option.bind_some, Bool.true_and]
        unfold impl_Log_up.step upsStep atE
        cases hgd : impl_Log_up.good (lastT l n) (rd_T73 l (n : Int)) with
        | false => simp [hgd]
        | true =>
          simp only [hgd, Bool.true_eq_false, if_false, if_true]
          split
          · rfl
          · split <;> rfl
theorem gd_false {l : List En} {i n : Nat} (h : gd l i = false) (hi : i ≤ n) : gd l n = false := by
  induction n with
  | zero => obtain rfl : i = 0 := by omega
            exact h
  | succ n ih =>
    rcases Nat.lt_or_ge i (n + 1) with h1 | h1
    · rw [gd, ih (by omega)]
      rfl
    · obtain rfl : i = n + 1 := by omega
      exact h
theorem ups_none {l : List En} {i n : Nat} (h : ups l i = none) (hi : i ≤ n) : ups l n = none := by
  induction n with
  | zero => obtain rfl : i = 0 := by omega
            exact h
  | succ n ih =>
    rcases Nat.lt_or_ge i (n + 1) with h1 | h1
    · rw [ups, ih (by omega)]
      rfl
    · obtain rfl : i = n + 1 := by omega
      exact h
theorem idxP_none {α : Type} {p : α → Bool} {l : List α} (h : idxP p l < 0) : ∀ x ∈ l, p x = false := by
  have := idxP_nonneg p l
  rw [decide_eq_false (by omega)] at this
  intro x hx
  exact List.any_eq_false.1 this.symm x hx |> (by simpa using ·)
theorem ups_ok {l : List En} {n : Nat} {out : List Int} (h : ups l n = some out) : out.length ≤ n ∧ (∀ x ∈ out, 0 ≤ x ∧ x < (n : Int)) ∧ out.Pairwise (fun a b => (rd_T73 l a).f1 ≠ (rd_T73 l b).f1) := by
  induction n generalizing out with
  | zero =>
    cases h
    simp
  | succ n ih =>
    rw [ups] at h
    obtain ⟨s0, h0, h1⟩ := Option.bind_eq_some_iff.1 h
    obtain ⟨i1, i2, i3⟩ := ih h0
    unfold upsStep at h1
    split at h1
    · cases h1
    · rename_i hne
      split at h1
      · cases h1
        refine ⟨?_, fun x hx => ?_, i3.sublist (List.eraseIdx_sublist ..)⟩
        · have := List.length_eraseIdx_le (l := s0) (i := (atE l n s0).toNat)
          omega
        · have := i2 x (List.mem_of_mem_eraseIdx hx)
          omega
      · rename_i hf
        cases h1
        refine ⟨by simp; omega, fun x hx => ?_, ?_⟩
        · simp only [List.mem_append, List.mem_singleton] at hx
          rcases hx with hx | rfl
          · have := i2 x hx
            omega
          · omega
        · rw [List.pairwise_append]
          refine ⟨i3, by simp, fun a ha b hb => ?_⟩
          simp only [List.mem_singleton] at hb
          subst hb
          have hk : atE l n s0 < 0 := by
            apply Classical.byContradiction
            intro hh
            rw [decide_eq_false hh] at hne
            simp only [Bool.not_eq_true] at hf
            exact hne hf.symm
          have := idxP_none hk a ha
          simpa using this
theorem idxP_take {p : Int → Bool} {out : List Int} {j : Nat} (hj : j < out.length) (hu : ∀ a b (ha : a < out.length) (hb : b < out.length), a < b → p out[a] = true → p out[b] = true → False) : idxP p (out.take (j + 1)) = if p out[j] = true then (j : Int) else idxP p (out.take j) := by
  split
  · rename_i h
    refine idxP_hit (k := j) (y := out[j]) (by rw [List.getElem?_take_of_lt (by omega)]; exact List.getElem?_eq_getElem hj) h (fun a x ha hx => ?_)
    rw [List.getElem?_take_of_lt (by omega)] at hx
    obtain ⟨h1, rfl⟩ := List.getElem?_eq_some_iff.1 hx
    cases hp : p out[a] with
    | false => rfl
    | true => exact (hu a j h1 hj ha hp h).elim
  · rename_i h
    simp only [Bool.not_eq_true] at h
    unfold idxP
    rw [List.take_succ_eq_append_getElem hj, List.findIdx?_append]
    cases e : (out.take j).findIdx? p with
    | some i => simp
    | none => simp [h]
set_option maxHeartbeats 400000 in
theorem specUp_inner {l : List En} {n : Int} {out : List Int} {i : Nat} (hi : i < l.length) (hl : l.length ≤ 60) (ho : out.length ≤ i ∧ (∀ x ∈ out, 0 ≤ x ∧ x < (i : Int)) ∧ out.Pairwise (fun a b => (rd_T73 l a).f1 ≠ (rd_T73 l b).f1)) :
    ∀ (d j K : Nat), j + d = out.length → spec_l07Up.l1 (K + d + 1) l n out (i : Int) (idxP (fun m => (rd_T73 l m).f1 == (rd_T73 l (i : Int)).f1) (out.take j)) (j : Int) = spec_l07Up.l1 (K + 1) l n out (i : Int) (atE l i out) (out.length : Int) := by
  intro d
  induction d with
  | zero =>
    intro j K hj
    obtain rfl : j = out.length := by omega
    rw [List.take_length]
    rfl
  | succ d ih =>
    intro j K hj
    have hjo : j < out.length := by omega
    obtain ⟨h1, h2, h3⟩ := ho
    have hm := h2 out[j] (List.getElem_mem hjo)
    rw [← ih (j + 1) K (by omega), show K + (d + 1) + 1 = (K + d + 1) + 1 by omega]
    conv => lhs; unfold spec_l07Up.l1
    rw [if_pos (by omega), if_pos (by omega), rd_nat hjo, if_pos (by omega), if_pos (by omega), if_pos (by omega), if_pos (by omega), w64 (by omega) (by omega), idxP_take hjo (fun a b ha hb hab pa pb => ?_)]
    · by_cases hq : (rd_T73 l out[j]).f1 = (rd_T73 l (i : Int)).f1
      · rw [if_pos hq, if_pos (by simpa using hq)]
        rfl
      · rw [if_neg hq, if_neg (by simpa using hq)]
        rfl
    · have := List.pairwise_iff_getElem.1 h3 a b ha hb hab
      simp only [beq_iff_eq] at pa pb
      exact this (pa.trans pb.symm)
set_option maxHeartbeats 1000000 in
theorem specUp_outer {l : List En} {n : Nat} (hn : n ≤ l.length) (hl : l.length ≤ 60) : ∀ (d i : Nat) (out : List Int) (K : Nat), i + d = n → ups l i = some out → 70 * (d + 1) ≤ K → spec_l07Up.l0 K l (n : Int) out (i : Int) = some (match ups l n with | some o => (o, true) | none => ([], false)) := by
  intro d
  induction d with
  | zero =>
    intro i out K hi hu hK
    obtain ⟨K, rfl⟩ : ∃ m, K = m + 1 := ⟨K - 1, by omega⟩
    obtain rfl : i = n := by omega
    simp only [spec_l07Up.l0]
    rw [if_neg (by omega), hu]
  | succ d ih =>
    intro i out K hi hu hK
    have ho := ups_ok hu
    obtain ⟨h1, h2, h3⟩ := ho
    obtain ⟨K, rfl⟩ : ∃ m, K = m + out.length + 2 := ⟨K - out.length - 2, by omega⟩
    have hK2 : 70 * (d + 1) ≤ K := by omega
    have hi2 : i + 1 + d = n := by omega
    have hsucc : ((i + 1 : Nat) : Int) = (i : Int) + 1 := by omega
    simp only [spec_l07Up.l0]
    rw [if_pos (by omega)]
    have e := specUp_inner (n := (n : Int)) (l := l) (out := out) (i := i) (by omega) hl ⟨h1, h2, h3⟩ out.length 0 K (by omega)
    rw [show idxP (fun m => (rd_T73 l m).f1 == (rd_T73 l (i : Int)).f1) (out.take 0) = -1 from rfl] at e
    rw [show ((0 : Nat) : Int) = 0 from rfl] at e
    rw [e]
    have hlt := impl_Log_up.idx_lt (fun m => (rd_T73 l m).f1 == (rd_T73 l (i : Int)).f1) out
    have hs : ups l (i + 1) = upsStep l i out := by rw [ups, hu]; rfl
    have hat : idxP (fun m => (rd_T73 l m).f1 == (rd_T73 l (i : Int)).f1) out = atE l i out := rfl
    rw [hat] at hlt
    conv => lhs; unfold spec_l07Up.l1
    rw [if_neg (by omega), if_pos (by omega), if_pos (by omega)]
    unfold upsStep at hs
    by_cases hneg : atE l i out < 0
    · rw [decide_eq_true hneg] at hs
      rw [show decide (atE l i out ≥ 0) = false from decide_eq_false (by omega)]
      cases hf : (rd_T73 l (i : Int)).f2 with
      | true =>
        rw [hf, if_pos rfl] at hs
        rw [if_pos (by rfl), ups_none hs (by omega)]
      | false =>
        rw [hf, if_neg (by simp), if_neg (by simp)] at hs
        rw [if_neg (by simp), if_pos hneg, if_pos (by omega), w64 (by omega) (by omega)]
        have e2 := ih (i + 1) _ K hi2 hs hK2
        rw [hsucc] at e2
        rw [e2]
    · rw [decide_eq_false hneg] at hs
      rw [show decide (atE l i out ≥ 0) = true from decide_eq_true (by omega)]
      cases hf : (rd_T73 l (i : Int)).f2 with
      | false =>
        rw [hf, if_pos rfl] at hs
        rw [if_pos (by rfl), ups_none hs (by omega)]
      | true =>
        rw [hf, if_neg (by simp), if_pos rfl] at hs
        rw [if_neg (by simp), if_neg hneg]
        simp only [Option.bind_some, List.nil_append]
        obtain ⟨q, hq⟩ : ∃ q : Nat, atE l i out = (q : Int) := ⟨(atE l i out).toNat, by omega⟩
        rw [hq] at hs hlt ⊢
        rw [if_pos (by omega), if_pos (by omega), if_pos (by simp; omega), if_pos (by rw [w64 (by omega) (by omega)]; omega), w64 (n := (q : Int) + 1) (by omega) (by omega), if_pos (by omega), if_pos (by simp; omega), w64 (n := (i : Int) + 1) (by omega) (by omega)]
        rw [Int.toNat_natCast, show ((q : Int) + 1).toNat = q + 1 by omega, ← List.eraseIdx_eq_take_drop_succ]
        have e2 := ih (i + 1) (out.eraseIdx q) K hi2 (by rw [hs, Int.toNat_natCast]) hK2
        rw [hsucc] at e2
        rw [e2]
theorem specUp_eq {l : List En} {n K : Nat} (hn : n ≤ l.length) (hl : l.length ≤ 60) (hK : 5000 < K) : spec_l07Up.f K l (n : Int) = some (match ups l n with | some o => (o, true) | none => ([], false)) := by
  unfold spec_l07Up.f
  exact specUp_outer hn hl n 0 [] K (by omega) rfl (by omega)
def validG (l : List En) : Bool := decide (l.length ≤ 60) && gd l l.length && (ups l l.length).isSome
theorem implValid_log {l : List En} (hl : l.length ≤ 1048576) : impl_ValidLog.f l = some (validG l) := by
  unfold impl_ValidLog.f impl_Log_up.f validG
  rw [if_pos hl, to_eq]
  cases hg : gd l l.length with
  | false => simp
  | true =>
    cases hu : ups l l.length with
    | none => simp
    | some o => simp; omega
theorem in_log (n lo hi : Int) : spec_l00In.f n lo hi = some (decide (lo ≤ n) && decide (n ≤ hi)) := by
  unfold spec_l00In.f
  by_cases h : lo ≤ n
  · rw [if_pos h, decide_eq_true h]
    rfl
  · rw [if_neg h, decide_eq_false h]
    rfl
theorem specOk_log {k : Nat} {l : List En} (hk : 6000 < k) : spec_l07Ok.f k l = some (validG l) := by
  unfold spec_l07Ok.f
  by_cases hl : l.length ≤ 60
  · rw [if_neg (by omega)]
    obtain ⟨r, hr, h⟩ := loop_inv2 (fun k (s : Int × Int) => spec_l07Ok.l0 k l s.1 s.2) l.length 5001 (fun i s => s.2 = (i : Int) ∧ s.1 = lastT l i ∧ gd l i = true) (fun r => r = validG l)
      (fun k i s hi hk ⟨h1, h2, h3⟩ => by
        obtain ⟨a, x⟩ := s
        simp only at h1 h2 h3
        subst h1 h2
        simp only [spec_l07Ok.l0]
        rw [if_pos (by omega), if_pos (by omega), in_log]
        simp only [Option.bind_some]
        have hg : gd l (i + 1) = impl_Log_up.good (lastT l i) (rd_T73 l (i : Int)) := by rw [gd, h3]; rfl
        unfold impl_Log_up.good at hg
        have hbad : gd l (i + 1) = false → false = validG l := fun h => by
          unfold validG
          rw [gd_false h (by omega)]
          simp
        cases hb1 : (decide (lastT l i ≤ (rd_T73 l (i : Int)).f0) && decide ((rd_T73 l (i : Int)).f0 ≤ 100000)) with
        | false =>
          rw [hb1] at hg
          exact .inr ⟨false, hbad hg, by simp⟩
        | true =>
          rw [hb1] at hg
          rw [if_pos rfl, in_log]
          simp only [Option.bind_some]
          cases hb2 : (decide (0 ≤ (rd_T73 l (i : Int)).f1) && decide ((rd_T73 l (i : Int)).f1 ≤ 9999)) with
          | false =>
            rw [hb2] at hg
            exact .inr ⟨false, hbad hg, by simp⟩
          | true =>
            rw [hb2] at hg
            refine .inl ⟨((rd_T73 l (i : Int)).f0, ((i + 1 : Nat) : Int)), ⟨rfl, rfl, hg⟩, ?_⟩
            rw [if_pos rfl, w64 (by omega) (by omega)]
            rfl)
      (fun k s hk ⟨h1, h2, h3⟩ => by
        obtain ⟨a, x⟩ := s
        simp only at h1 h2 h3
        subst h1 h2
        refine ⟨validG l, rfl, ?_⟩
        simp only [spec_l07Ok.l0]
        rw [if_neg (by omega), specUp_eq (Nat.le_refl _) hl (by omega)]
        unfold validG
        rw [h3]
        cases ups l l.length <;> simp [hl]) k (0, 0) ⟨rfl, rfl, rfl⟩ (by omega)
    subst hr
    exact h
  · rw [if_pos (by omega)]
    unfold validG
    simp [hl]
end Go.Proofs.Ytidkniacmcbgiaa.G.Pure
end

section
namespace Go.Proofs.Ytidkniacmcbgiaa.G.Pure
open Go.RowKit Go.Proofs.Ytidkniacmcbgiaa.G Go.Proofs.YtidkniacmcbgiaaW.PrintWords Go.Proofs.YtidkniacmcbgiaaW.PrintLast Go.Proofs.YtidkniacmcbgiaaW.PrintMore
set_option linter.unusedVariables false
set_option linter.unusedSimpArgs false
def rowOf (n : Nat) (V : Nat → Int) : List Int := (List.range (n + 1)).map V
def tabOf (m n : Nat) (V : Nat → Nat → Int) : List (List Int) := (List.range (m + 1)).map fun i => rowOf n (V i)
def RowSt (n : Nat) (V : Nat → Int) (q : Nat) (r : List Int) : Prop := r.length = n + 1 ∧ ∀ k,q ≤ k → k ≤ n → r[k]? = some (V k)
def TabSt (m n : Nat) (V : Nat → Nat → Int) (P : List Int → Prop) (i q : Nat) (T : List (List Int)) : Prop :=
 T.length = m + 1 ∧ (∀ i',i < i' → i' ≤ m → RowSt n (V i') 0 (T.getD i' [])) ∧ RowSt n (V i) q (T.getD i []) ∧ ∀ i',i' < i → P (T.getD i' [])
theorem rowSt_eq {n : Nat} {V : Nat → Int} {r : List Int} (h : RowSt n V 0 r) : r = rowOf n V := by
 obtain ⟨h1,h2⟩ := h
 apply List.ext_getElem?
 intro k
 unfold rowOf
 rcases Nat.lt_or_ge k (n + 1) with hk | hk
 ·rw [h2 k (Nat.zero_le _) (by omega)]
  simp [List.getElem?_range hk]
 ·rw [List.getElem?_eq_none (by omega),List.getElem?_eq_none (by simp;omega)]
theorem rowSt_get {n : Nat} {V : Nat → Int} {q : Nat} {r : List Int} (h : RowSt n V q r) {k : Nat} (hq : q ≤ k) (hk : k ≤ n) : rd r (k : Int) = V k := by
 have := h.2 k hq hk
 simp [rd,List.getD_eq_getElem?_getD,this]
theorem rowSt_set {n : Nat} {V : Nat → Int} {q : Nat} {r : List Int} (h : RowSt n V (q + 1) r) (hq : q ≤ n) : RowSt n V q (r.set q (V q)) := by
 refine ⟨by rw [List.length_set];exact h.1,fun k hk hn => ?_⟩
 by_cases e : q = k
 ·subst e
  rw [List.getElem?_set_self (by rw [h.1];omega)]
 ·rw [List.getElem?_set_ne e]
  exact h.2 k (by omega) hn
theorem getD_set_self {T : List (List Int)} {i : Nat} {r : List Int} (h : i < T.length) : (T.set i r).getD i [] = r := by
 rw [List.getD_eq_getElem?_getD,List.getElem?_set_self h]
 rfl
theorem getD_set_ne {T : List (List Int)} {i j : Nat} {r : List Int} (h : i ≠ j) : (T.set i r).getD j [] = T.getD j [] := by
 rw [List.getD_eq_getElem?_getD,List.getElem?_set_ne h,List.getD_eq_getElem?_getD]
theorem tabSt_set {m n : Nat} {V : Nat → Nat → Int} {P : List Int → Prop} {i q : Nat} {T : List (List Int)} (h : TabSt m n V P i (q + 1) T) (hi : i ≤ m) (hq : q ≤ n) : TabSt m n V P i q (T.set i ((T.getD i []).set q (V i q))) := by
 obtain ⟨h1,h2,h3,h4⟩ := h
 refine ⟨by rw [List.length_set];exact h1,fun i' hi' hm => ?_,?_,fun i' hi' => ?_⟩
 ·rw [getD_set_ne (by omega)]
  exact h2 i' hi' hm
 ·rw [getD_set_self (by omega)]
  exact rowSt_set h3 hq
 ·rw [getD_set_ne (by omega)]
  exact h4 i' hi'
theorem tab_eq {m n : Nat} {V : Nat → Nat → Int} {T : List (List Int)} (h1 : T.length = m + 1) (h2 : ∀ i',i' ≤ m → RowSt n (V i') 0 (T.getD i' [])) : T = tabOf m n V := by
 apply List.ext_getElem?
 intro i
 unfold tabOf
 rcases Nat.lt_or_ge i (m + 1) with hi | hi
 ·have := rowSt_eq (h2 i (by omega))
  rw [List.getElem?_eq_getElem (by omega)]
  rw [List.getD_eq_getElem?_getD,List.getElem?_eq_getElem (by omega)] at this
  simp only [Option.getD_some] at this
  rw [this]
  simp [List.getElem?_range hi]
 ·rw [List.getElem?_eq_none (by omega),List.getElem?_eq_none (by simp;omega)]
theorem tab_row {m n : Nat} {V : Nat → Nat → Int} {i : Nat} (hi : i ≤ m) : rd_L6 (tabOf m n V) (i : Int) = rowOf n (V i) := by
 show (tabOf m n V).getD i [] = _
 unfold tabOf
 rw [List.getD_eq_getElem?_getD,List.getElem?_map,List.getElem?_range (by omega)]
 rfl
theorem row_at {n : Nat} {V : Nat → Int} {k : Nat} (hk : k ≤ n) : rd (rowOf n V) (k : Int) = V k := by
 unfold rowOf
 simp [rd,List.getD_eq_getElem?_getD,List.getElem?_range (by omega : k < n + 1)]
theorem row_len {n : Nat} {V : Nat → Int} : (rowOf n V).length = n + 1 := by simp [rowOf]
theorem tab_len {m n : Nat} {V : Nat → Nat → Int} : (tabOf m n V).length = m + 1 := by simp [tabOf]
theorem tab_loop {γ : Type} (m n c : Nat) (V : Nat → Nat → Int) (P : List Int → Prop) (L0 : Nat → List (List Int) → Int → Option γ) (L1 : Nat → List (List Int) → Int → Int → Option γ) (R : List (List Int) → γ) (hm : m ≤ 60) (hn : n ≤ 60) (hc : c ≤ 20)
  (init : ∀ K T i,i ≤ m → T.length = m + 1 → P (T.getD i []) → ∃ r : List Int,r.length = n + 1 ∧ L0 (K + 1) T (i : Int) = L1 K (T.set i r) (i : Int) (n : Int))
  (step : ∀ K T i q,i ≤ m → q ≤ n → TabSt m n V P i (q + 1) T → L1 (K + c) T (i : Int) (q : Int) = L1 K (T.set i ((T.getD i []).set q (V i q))) (i : Int) ((q : Int) - 1))
  (out : ∀ K T i,i ≤ m → L1 (K + 1) T (i : Int) (-1) = L0 K T ((i : Int) - 1))
  (fin : ∀ K T,L0 (K + 1) T (-1) = some (R T)) (T0 : List (List Int)) (h0 : T0.length = m + 1) (hP : ∀ i,i ≤ m → P (T0.getD i [])) :
  ∀ K,100000 ≤ K → L0 K T0 (m : Int) = some (R (tabOf m n V)) := by
 have inner : ∀ q K T i,i ≤ m → q ≤ n + 1 → TabSt m n V P i q T → ∃ T',TabSt m n V P i 0 T' ∧ L1 (K + q * c) T (i : Int) ((q : Int) - 1) = L1 K T' (i : Int) (-1) := by
  intro q
  induction q with
  | zero => exact fun K T i hi hq h => ⟨T,h,by simp⟩
  | succ q ih =>
   intro K T i hi hq h
   obtain ⟨T',h1,h2⟩ := ih K _ i hi (by omega) (tabSt_set h hi (by omega))
   refine ⟨T',h1,?_⟩
   rw [← h2,← step (K + q * c) T i q hi (by omega) h,Nat.succ_mul,Nat.add_assoc]
   congr 1
   omega
 have outer : ∀ j K T,j ≤ m + 1 → T.length = m + 1 → (∀ i',j ≤ i' → i' ≤ m → RowSt n (V i') 0 (T.getD i' [])) → (∀ i',i' < j → P (T.getD i' [])) → L0 (K + 1 + j * ((n + 1) * c + 2)) T ((j : Int) - 1) = some (R (tabOf m n V)) := by
  intro j
  induction j with
  | zero =>
   intro K T hj hl hr hp
   rw [show ((0 : Nat) : Int) - 1 = -1 from rfl,Nat.zero_mul,Nat.add_zero,fin,tab_eq hl (fun i' hi' => hr i' (Nat.zero_le _) hi')]
  | succ j ih =>
   intro K T hj hl hr hp
   obtain ⟨r,hr1,hr2⟩ := init (K + 1 + j * ((n + 1) * c + 2) + 1 + (n + 1) * c) T j (by omega) hl (hp j (by omega))
   have hst : TabSt m n V P j (n + 1) (T.set j r) := by
    refine ⟨by rw [List.length_set];exact hl,fun i' hi' hm' => ?_,?_,fun i' hi' => ?_⟩
    ·rw [getD_set_ne (by omega)]
     exact hr i' (by omega) hm'
    ·rw [getD_set_self (by omega)]
     exact ⟨hr1,fun k hk hn => by omega⟩
    ·rw [getD_set_ne (by omega)]
     exact hp i' (by omega)
   obtain ⟨T',h1,h2⟩ := inner (n + 1) (K + 1 + j * ((n + 1) * c + 2) + 1) _ j (by omega) (Nat.le_refl _) hst
   rw [show ((n + 1 : Nat) : Int) - 1 = (n : Int) by omega] at h2
   rw [show K + 1 + (j + 1) * ((n + 1) * c + 2) = K + 1 + j * ((n + 1) * c + 2) + 1 + (n + 1) * c + 1 by rw [Nat.succ_mul];omega,show ((j + 1 : Nat) : Int) - 1 = (j : Int) by omega,hr2,h2,out _ _ _ (by omega)]
   refine ih K T' (by omega) h1.1 (fun i' hi' hm' => ?_) (fun i' hi' => h1.2.2.2 i' hi')
   rcases Nat.eq_or_lt_of_le hi' with e | e
   ·subst e
    exact h1.2.2.1
   ·exact h1.2.1 i' e hm'
 intro K hK
 have hb : (m + 1) * ((n + 1) * c + 2) ≤ 61 * (61 * 20 + 2) := Nat.mul_le_mul (by omega) (Nat.add_le_add_right (Nat.mul_le_mul (by omega) hc) _)
 have e := outer (m + 1) (K - 1 - (m + 1) * ((n + 1) * c + 2)) T0 (Nat.le_refl _) h0 (fun i' h1 h2 => by omega) (fun i' hi' => hP i' (by omega))
 rw [show K - 1 - (m + 1) * ((n + 1) * c + 2) + 1 + (m + 1) * ((n + 1) * c + 2) = K by omega,show ((m + 1 : Nat) : Int) - 1 = (m : Int) by omega] at e
 exact e
end Go.Proofs.Ytidkniacmcbgiaa.G.Pure
end

section
namespace Go.Proofs.Ytidkniacmcbgiaa.G.Pure
open Go.RowKit Go.Proofs.Ytidkniacmcbgiaa.G Go.Proofs.YtidkniacmcbgiaaW.PrintWords Go.Proofs.YtidkniacmcbgiaaW.PrintLast Go.Proofs.YtidkniacmcbgiaaW.PrintMore
set_option linter.unusedVariables false
set_option linter.unusedSimpArgs false
theorem valid_parts {l : List En} (h : validG l = true) : l.length ≤ 60 ∧ gd l l.length = true ∧ ∃ o,ups l l.length = some o := by
 unfold validG at h
 simp only [Bool.and_eq_true,decide_eq_true_eq] at h
 exact ⟨h.1.1,h.1.2,Option.isSome_iff_exists.1 h.2⟩
end Go.Proofs.Ytidkniacmcbgiaa.G.Pure
end

section
namespace Go.Proofs.Ytidkniacmcbgiaa.G.Pure
open Go.RowKit Go.Proofs.Ytidkniacmcbgiaa.G Go.Proofs.YtidkniacmcbgiaaW.PrintWords Go.Proofs.YtidkniacmcbgiaaW.PrintLast Go.Proofs.YtidkniacmcbgiaaW.PrintMore
set_option linter.unusedVariables false
set_option linter.unusedSimpArgs false
theorem const_flat {α : Type} (x : α) (n : Nat) : (List.range n).flatMap (fun _ => [x]) = List.replicate n x := by
 induction n with
 | zero => rfl
 | succ n ih =>
  rw [List.range_succ,List.flatMap_append,ih,List.replicate_succ']
  rfl
theorem l00Max_eq (x y : Int) : spec_l00Max.f x y = some (mx x y) := by
 unfold spec_l00Max.f mx
 split <;> split <;> first | rfl | (congr 1;omega) | omega
theorem specBegin_eq {k : Nat} {a b : List En} (ha : a.length ≤ 60) (hb : b.length ≤ 60) (hk : 100000 ≤ k) : spec_l07Begin.f k a b = some (List.replicate (a.length + 1) (List.replicate (b.length + 1) 0)) := by
 unfold spec_l07Begin.f
 have e := loop_acc (fun k acc i => spec_l07Begin.l0 k a b acc i) (a.length + 1) (fun _ => [List.replicate (b.length + 1) 0]) (fun T => T) (fun _ _ => by simp)
  (fun k i acc hi ha' => by
   simp only [spec_l07Begin.l0]
   rw [if_pos (by omega),w64 (by omega) (by omega),if_pos (by omega),if_pos (by omega),if_pos (by omega),w64 (by omega) (by omega),show ((b.length : Int) + 1).toNat = b.length + 1 by omega]
   rfl)
  (fun k acc h => by
   simp only [spec_l07Begin.l0]
   rw [if_neg (by omega)]) k (by omega)
 rw [e,const_flat]
theorem logsCode_eq {a b : List En} (ha : a.length ≤ 1048576) (hb : b.length ≤ 1048576) : impl_logsCode.f a b = some (if validG a = true ∧ validG b = true then 0 else 1) := by
 unfold impl_logsCode.f
 rw [implValid_log ha,implValid_log hb]
 simp only [Option.bind_some]
 cases validG a <;> cases validG b <;> simp [impl_unless.f]
end Go.Proofs.Ytidkniacmcbgiaa.G.Pure
end

section
namespace Go.Proofs.Ytidkniacmcbgiaa.G.Pure
open Go.RowKit Go.Proofs.Ytidkniacmcbgiaa.G Go.Proofs.YtidkniacmcbgiaaW.PrintWords Go.Proofs.YtidkniacmcbgiaaW.PrintLast Go.Proofs.YtidkniacmcbgiaaW.PrintMore
set_option linter.unusedVariables false
set_option linter.unusedSimpArgs false
theorem agree_eq (e f : En) : impl_Entry_agree.f e.f0 e.f1 e.f2 f.f0 f.f1 f.f2 = some (decide (e.f1 = f.f1) && decide (e.f2 = f.f2)) := by
 unfold impl_Entry_agree.f
 by_cases h : e.f1 = f.f1 <;> simp [h,Bool.beq_eq_decide_eq]
end Go.Proofs.Ytidkniacmcbgiaa.G.Pure
end

section
namespace Go.Proofs.Ytidkniacmcbgiaa.G.Pure
open Go.RowKit Go.Proofs.Ytidkniacmcbgiaa.G Go.Proofs.YtidkniacmcbgiaaW.PrintWords Go.Proofs.YtidkniacmcbgiaaW.PrintLast Go.Proofs.YtidkniacmcbgiaaW.PrintMore
set_option linter.unusedVariables false
set_option linter.unusedSimpArgs false
theorem agree_spec (e f : En) : spec_l07Agree.f e.f0 e.f1 e.f2 f.f0 f.f1 f.f2 = some (decide (e.f1 = f.f1) && decide (e.f2 = f.f2)) := by
 unfold spec_l07Agree.f
 by_cases h : e.f1 = f.f1 <;> simp [h,Bool.beq_eq_decide_eq]
theorem agr_impl (a b : List En) (i k : Nat) : impl_Entry_agree.f (rd_T73 a (i : Int)).f0 (rd_T73 a (i : Int)).f1 (rd_T73 a (i : Int)).f2 (rd_T73 b (k : Int)).f0 (rd_T73 b (k : Int)).f1 (rd_T73 b (k : Int)).f2 = some (agr a b i k) := agree_eq _ _
theorem agr_spec (a b : List En) (i k : Nat) : spec_l07Agree.f (rd_T73 a (i : Int)).f0 (rd_T73 a (i : Int)).f1 (rd_T73 a (i : Int)).f2 (rd_T73 b (k : Int)).f0 (rd_T73 b (k : Int)).f1 (rd_T73 b (k : Int)).f2 = some (agr a b i k) := agree_spec _ _
set_option maxHeartbeats 1000000 in
theorem numC {a b : List En} (ha : a.length ≤ 60) (hb : b.length ≤ 60) {P : List Int → Prop} {T : List (List Int)} {i q : Nat} (hi : i ≤ a.length) (hq : q ≤ b.length) (h : TabSt a.length b.length (lcsV a b) P i (q + 1) T) (K : Nat) :
  impl_CommonOf_1.f (K + 1) T (i : Int) (q : Int) a b = some (lcsV a b i q) := by
 obtain ⟨h1,h2,h3,h4⟩ := h
 unfold impl_CommonOf_1.f
 simp only [impl_CommonOf_1.j0]
 by_cases e1 : i = a.length
 ·rw [if_pos (by omega),if_pos trivial,lcsV_end (.inl (by omega))]
 ·rw [if_neg (by omega)]
  by_cases e2 : q = b.length
  ·rw [if_pos (by simp [e2]),lcsV_end (.inr (by omega))]
  ·rw [if_neg (by simp;omega),if_pos (by omega),if_pos (by omega),if_pos (by omega),if_pos (by omega),agr_impl,w64 (n := (i : Int) + 1) (by omega) (by omega),w64 (n := (q : Int) + 1) (by omega) (by omega)]
   simp only [Option.bind_some]
   have r1 := h2 (i + 1) (by omega) (by omega)
   have d1 : rd_L6 T ((i : Int) + 1) = T.getD (i + 1) [] := by rw [show (i : Int) + 1 = ((i + 1 : Nat) : Int) by omega];rfl
   have d0 : rd_L6 T (i : Int) = T.getD i [] := rfl
   rw [d1,d0]
   have g1 := rowSt_get r1 (Nat.zero_le q) (by omega)
   have g2 : rd (T.getD (i + 1) []) ((q : Int) + 1) = lcsV a b (i + 1) (q + 1) := by
    have := rowSt_get r1 (Nat.zero_le (q + 1)) (by omega)
    rwa [show ((q + 1 : Nat) : Int) = (q : Int) + 1 by omega] at this
   have g3 : rd (T.getD i []) ((q : Int) + 1) = lcsV a b i (q + 1) := by
    have := rowSt_get h3 (Nat.le_refl (q + 1)) (by omega)
    rwa [show ((q + 1 : Nat) : Int) = (q : Int) + 1 by omega] at this
   have l1 := r1.1
   have l0 := h3.1
   have b2 := lcsV_b (a := a) (b := b) (i + 1) (q + 1)
   rw [g1,g2,g3,lcsV_in (i := i) (k := q) (by omega) (by omega)]
   by_cases hag : agr a b i q = true
   ·rw [if_pos hag,if_pos hag,if_pos (by omega),if_pos (by omega),if_pos (by omega),if_pos (by omega),w64 (by omega) (by omega)]
   ·rw [if_neg hag,if_neg hag,if_pos (by omega),if_pos (by omega),if_pos (by omega),if_pos (by omega),if_pos (by omega),if_pos (by omega)]
theorem implTab {k : Nat} {a b : List En} (ha : a.length ≤ 60) (hb : b.length ≤ 60) (hk : 100001 ≤ k) : impl_table__impl_CommonOf_1.f k a b a b = some (tabOf a.length b.length (lcsV a b)) := by
 obtain ⟨k,rfl⟩ : ∃ j,k = j + 1 := ⟨k - 1,by omega⟩
 unfold impl_table__impl_CommonOf_1.f
 rw [w64 (by omega) (by omega),if_pos (by omega),if_pos (by omega)]
 have e := tab_loop a.length b.length 1 (lcsV a b) (fun _ => True) (fun K T i => impl_table__impl_CommonOf_1.l0 (K + 1) b T i a b) (fun K T i q => impl_table__impl_CommonOf_1.l1 (K + 1) b T i q a b) (fun T => T) ha hb (by omega)
  (fun K T i hi hl _ => by
   refine ⟨List.replicate (b.length + 1) 0,by simp,?_⟩
   generalize K + 1 = K1
   simp only [impl_table__impl_CommonOf_1.l0]
   rw [if_pos (by omega),w64 (by omega) (by omega),if_pos (by omega),if_pos (by omega),if_pos (by omega),if_pos (by omega)]
   rw [show ((b.length : Int) + 1).toNat = b.length + 1 by omega,Int.toNat_natCast])
  (fun K T i q hi hq h => by
   have l0 := h.2.2.1.1
   have l1 := h.1
   have hn := numC ha hb hi hq h K
   generalize K + 1 = K1 at *
   simp only [impl_table__impl_CommonOf_1.l1]
   rw [if_pos (by omega),if_pos (by omega),if_pos (by omega),hn]
   simp only [Option.bind_some]
   have d0 : rd_L6 T (i : Int) = T.getD i [] := rfl
   rw [d0,if_pos (by omega),if_pos (by omega),w64 (by omega) (by omega),Int.toNat_natCast,Int.toNat_natCast])
  (fun K T i hi => by
   generalize K + 1 = K1
   simp only [impl_table__impl_CommonOf_1.l1]
   rw [if_neg (by omega),w64 (by omega) (by omega)])
  (fun K T => by
   generalize K + 1 = K1
   simp only [impl_table__impl_CommonOf_1.l0]
   rw [if_neg (by omega)]) (List.replicate (a.length + 1) []) (by simp) (fun _ _ => trivial) k (by omega)
 rw [show ((a.length : Int) + 1).toNat = a.length + 1 by omega]
 try simp only at e
 rw [e]
theorem implRow {a b : List En} (ha : a.length ≤ 60) (hb : b.length ≤ 60) {i k : Nat} (hi : i < a.length) (hk : k ≤ b.length) (out : List St) (ho : out.length ≤ 60) (hp : 0 < lcsV a b i k) (K : Nat) : ∀ d m,m + d = b.length → k ≤ m → (∀ j,j < m → pickF a b i k j = false) →
  impl_CommonOf.l1 (K + 2 * d + 2) (tabOf a.length b.length (lcsV a b)) out (i : Int) (k : Int) (lcsV a b i k) (m : Int) a b = (match pickAt a b i k with | some m' => impl_CommonOf.l0 (K + 2 * (b.length - m')) (tabOf a.length b.length (lcsV a b)) (out ++ [(⟨(i : Int),(m' : Int)⟩ : St)]) ((i : Int) + 1) ((m' : Int) + 1) a b | none => impl_CommonOf.l0 K (tabOf a.length b.length (lcsV a b)) out ((i : Int) + 1) (k : Int) a b) := by
 have t0 := tab_row (m := a.length) (n := b.length) (V := lcsV a b) (i := i) (by omega)
 have t1 := tab_row (m := a.length) (n := b.length) (V := lcsV a b) (i := i + 1) (by omega)
 rw [show ((i + 1 : Nat) : Int) = (i : Int) + 1 by omega] at t1
 have tl := tab_len (m := a.length) (n := b.length) (V := lcsV a b)
 have rl := fun i => row_len (n := b.length) (V := lcsV a b i)
 have b0 := lcsV_b (a := a) (b := b) i k
 intro d
 induction d with
 | zero =>
  intro m hm hkm hno
  have hnone : pickAt a b i k = none := by
   unfold pickAt
   rw [List.find?_eq_none]
   intro j hj
   rw [hno j (by have := List.mem_range.1 hj;omega)]
   simp
  rw [hnone]
  simp only [Nat.mul_zero,Nat.add_zero]
  rw [show K + 2 = (K + 1) + 1 from rfl]
  generalize hK : K + 1 = K1
  simp only [impl_CommonOf.l1]
  rw [if_neg (by omega),← hK]
  simp only [impl_CommonOf.j2]
  rw [if_neg (by simp),w64 (by omega) (by omega)]
 | succ d ih =>
  intro m hm hkm hno
  have hml : m < b.length := by omega
  rw [show K + 2 * (d + 1) + 2 = (K + 2 * d + 2 + 1) + 1 by omega]
  generalize hK : K + 2 * d + 2 + 1 = K1
  simp only [impl_CommonOf.l1]
  have hrow := row_at (n := b.length) (V := lcsV a b i) (k := k) (by omega)
  rw [if_pos (by omega),if_pos (by omega),if_pos (by omega),if_pos (by omega),t0,if_pos (by rw [rl];omega),hrow,← hK]
  simp only [impl_CommonOf.j2]
  have hrow1 := row_at (n := b.length) (V := lcsV a b (i + 1)) (k := m + 1) (by omega)
  rw [show ((m + 1 : Nat) : Int) = (m : Int) + 1 by omega] at hrow1
  rw [if_pos (by simp),if_pos (by omega),if_pos (by omega),if_pos (by omega),if_pos (by omega),agr_impl,w64 (n := (i : Int) + 1) (by omega) (by omega),w64 (n := (m : Int) + 1) (by omega) (by omega),t1,hrow1,w64 (n := lcsV a b i k - 1) (by omega) (by omega)]
  simp only [Option.bind_some]
  have hnext : pickF a b i k m = false → impl_CommonOf.l1 (K + 2 * d + 2) (tabOf a.length b.length (lcsV a b)) out (i : Int) (k : Int) (lcsV a b i k) ((m : Int) + 1) a b = (match pickAt a b i k with | some m' => impl_CommonOf.l0 (K + 2 * (b.length - m')) (tabOf a.length b.length (lcsV a b)) (out ++ [(⟨(i : Int),(m' : Int)⟩ : St)]) ((i : Int) + 1) ((m' : Int) + 1) a b | none => impl_CommonOf.l0 K (tabOf a.length b.length (lcsV a b)) out ((i : Int) + 1) (k : Int) a b) := fun hf => by
   have := ih (m + 1) (by omega) (by omega) (fun j hj => by
    rcases Nat.lt_succ_iff_lt_or_eq.1 hj with e | e
    ·exact hno j e
    ·subst e;exact hf)
   rwa [show ((m + 1 : Nat) : Int) = (m : Int) + 1 by omega] at this
  by_cases hag : agr a b i m = true
  ·rw [if_pos hag,if_pos (by omega),if_pos (by omega),if_pos (by omega),if_pos (by rw [rl];omega)]
   by_cases hv : lcsV a b (i + 1) (m + 1) = lcsV a b i k - 1
   ·rw [if_pos hv,if_pos (by omega)]
    have hs : pickAt a b i k = some m := by
     unfold pickAt
     rw [List.find?_range_eq_some]
     refine ⟨?_,by simpa using hml,fun j hj => by simp [hno j hj]⟩
     unfold pickF
     rw [decide_eq_true hkm,hag,decide_eq_true hv]
     rfl
    rw [hs]
    simp only
    rw [show K + 2 * (b.length - m) = K + 2 * d + 2 by omega]
   ·rw [if_neg hv]
    exact hnext (by unfold pickF;rw [decide_eq_false hv,Bool.and_false,Bool.and_false])
  ·rw [if_neg hag]
   exact hnext (by unfold pickF;rw [show agr a b i m = false by simpa using hag,Bool.false_and,Bool.and_false])
theorem implSteps {a b : List En} (ha : a.length ≤ 60) (hb : b.length ≤ 60) : ∀ d k (out : List St) K,d ≤ a.length → k ≤ b.length → out.length + d ≤ 60 → 130 * d + 1 ≤ K → impl_CommonOf.l0 K (tabOf a.length b.length (lcsV a b)) out ((a.length - d : Nat) : Int) (k : Int) a b = some (out ++ picks a b d k,0) := by
 intro d
 induction d with
 | zero =>
  intro k out K hd hk ho hK
  obtain ⟨K,rfl⟩ : ∃ m,K = m + 1 := ⟨K - 1,by omega⟩
  have t0 := tab_row (m := a.length) (n := b.length) (V := lcsV a b) (i := a.length) (by omega)
  have tl := tab_len (m := a.length) (n := b.length) (V := lcsV a b)
  have rl := row_len (n := b.length) (V := lcsV a b a.length)
  have hrow := row_at (n := b.length) (V := lcsV a b a.length) (k := k) (by omega)
  simp only [impl_CommonOf.l0,Nat.sub_zero]
  rw [if_pos (by omega),if_pos (by omega),if_pos (by omega),t0,if_pos (by omega),hrow,lcsV_end (.inl (Nat.le_refl _)),if_neg (by omega),picks,List.append_nil]
 | succ d ih =>
  intro k out K hd hk ho hK
  have hil : a.length - (d + 1) < a.length := by omega
  have hn1 : ((a.length - d : Nat) : Int) = ((a.length - (d + 1) : Nat) : Int) + 1 := by omega
  have t0 := tab_row (m := a.length) (n := b.length) (V := lcsV a b) (i := a.length - (d + 1)) (by omega)
  have tl := tab_len (m := a.length) (n := b.length) (V := lcsV a b)
  have rl := row_len (n := b.length) (V := lcsV a b (a.length - (d + 1)))
  have hrow := row_at (n := b.length) (V := lcsV a b (a.length - (d + 1))) (k := k) (by omega)
  obtain ⟨K,rfl⟩ : ∃ m,K = (m + 2 * (b.length - k) + 2) + 1 := ⟨K - 2 * (b.length - k) - 3,by omega⟩
  generalize hK2 : K + 2 * (b.length - k) + 2 = K2
  by_cases hp : 0 < lcsV a b (a.length - (d + 1)) k
  ·have e := implRow ha hb hil hk out (by omega) hp K (b.length - k) k (by omega) (Nat.le_refl _) (fun j hj => by
    unfold pickF
    rw [decide_eq_false (by omega),Bool.false_and])
   rw [hK2] at e
   simp only [impl_CommonOf.l0]
   rw [if_pos (by omega),if_pos (by omega),if_pos (by omega),t0,if_pos (by omega),hrow,if_pos hp,e,picks]
   cases hpk : pickAt a b (a.length - (d + 1)) k with
   | some m =>
    obtain ⟨p1,p2,p3,p4,p5⟩ := pickAt_some hpk
    simp only
    have := ih (m + 1) (out ++ [(⟨((a.length - (d + 1) : Nat) : Int),(m : Int)⟩ : St)]) (K + 2 * (b.length - m)) (by omega) (by omega) (by rw [List.length_append,List.length_singleton];omega) (by omega)
    rw [hn1,show ((m + 1 : Nat) : Int) = (m : Int) + 1 by omega] at this
    rw [this,List.append_assoc]
    rfl
   | none =>
    simp only
    have := ih k out K (by omega) hk (by omega) (by omega)
    rw [hn1] at this
    exact this
  ·have h0 : lcsV a b (a.length - (d + 1)) k = 0 := by have := lcsV_b (a := a) (b := b) (a.length - (d + 1)) k;omega
   simp only [impl_CommonOf.l0]
   rw [if_pos (by omega),if_pos (by omega),if_pos (by omega),t0,if_pos (by omega),hrow,if_neg hp,picks_zero (d + 1) k hd h0 hk,List.append_nil]
def resCommon (a b : List En) : List St × Int := if validG a = true ∧ validG b = true then (picks a b a.length 0,0) else ([],1)
theorem implCommon_eq {k : Nat} {a b : List En} (ha : a.length ≤ 1048576) (hb : b.length ≤ 1048576) (hk : 100001 ≤ k) : impl_CommonOf.f k a b = some (resCommon a b) := by
 unfold impl_CommonOf.f resCommon
 rw [logsCode_eq ha hb]
 simp only [Option.bind_some]
 by_cases hv : validG a = true ∧ validG b = true
 ·have h1 := (valid_parts hv.1).1
  have h2 := (valid_parts hv.2).1
  rw [if_pos hv,if_pos rfl,if_pos hv,implTab h1 h2 hk]
  simp only [Option.bind_some]
  have e := implSteps h1 h2 a.length 0 [] k (Nat.le_refl _) (Nat.zero_le _) (by simpa using h1) (by omega)
  rw [Nat.sub_self] at e
  exact e
 ·rw [if_neg hv,if_neg (by omega),if_neg hv]
end Go.Proofs.Ytidkniacmcbgiaa.G.Pure
end

section
namespace Go.Proofs.Ytidkniacmcbgiaa.G.Pure
open Go.RowKit Go.Proofs.Ytidkniacmcbgiaa.G Go.Proofs.YtidkniacmcbgiaaW.PrintWords Go.Proofs.YtidkniacmcbgiaaW.PrintLast Go.Proofs.YtidkniacmcbgiaaW.PrintMore
set_option linter.unusedVariables false
set_option linter.unusedSimpArgs false
theorem specInner {a b : List En} (ha : a.length ≤ 60) (hb : b.length ≤ 60) {P : List Int → Prop} {i : Nat} (hi : i < a.length) : ∀ q K T,q ≤ b.length → TabSt a.length b.length (lcsV a b) P i q T → ∃ T',TabSt a.length b.length (lcsV a b) P i 0 T' ∧ spec_CommonOf.l1 (K + q) a b T (i : Int) ((q : Int) - 1) = spec_CommonOf.l1 K a b T' (i : Int) (-1) := by
 intro q
 induction q with
 | zero => exact fun K T hq h => ⟨T,h,by simp⟩
 | succ q ih =>
  intro K T hq h
  obtain ⟨T',g1,g2⟩ := ih K _ (by omega) (tabSt_set h (by omega) (by omega))
  refine ⟨T',g1,?_⟩
  rw [← g2]
  obtain ⟨h1,h2,h3,h4⟩ := h
  have r1 := h2 (i + 1) (by omega) (by omega)
  have d1 : rd_L6 T ((i : Int) + 1) = T.getD (i + 1) [] := by rw [show (i : Int) + 1 = ((i + 1 : Nat) : Int) by omega];rfl
  have d0 : rd_L6 T (i : Int) = T.getD i [] := rfl
  have e1 := rowSt_get r1 (Nat.zero_le q) (by omega)
  have e2 : rd (T.getD (i + 1) []) ((q : Int) + 1) = lcsV a b (i + 1) (q + 1) := by
   have := rowSt_get r1 (Nat.zero_le (q + 1)) (by omega)
   rwa [show ((q + 1 : Nat) : Int) = (q : Int) + 1 by omega] at this
  have e3 : rd (T.getD i []) ((q : Int) + 1) = lcsV a b i (q + 1) := by
   have := rowSt_get h3 (Nat.le_refl (q + 1)) (by omega)
   rwa [show ((q + 1 : Nat) : Int) = (q : Int) + 1 by omega] at this
  have l1 := r1.1
  have l0 := h3.1
  have b2 := lcsV_b (a := a) (b := b) (i + 1) (q + 1)
  have hv := lcsV_in (a := a) (b := b) hi (show q < b.length by omega)
  rw [show K + (q + 1) = (K + q) + 1 by omega,show ((q + 1 : Nat) : Int) - 1 = (q : Int) by omega]
  generalize K + q = K1
  simp only [spec_CommonOf.l1]
  rw [if_pos (by omega),if_pos (by omega),if_pos (by omega),w64 (n := (i : Int) + 1) (by omega) (by omega),w64 (n := (q : Int) + 1) (by omega) (by omega),if_pos (by omega),if_pos (by omega),if_pos (by omega),d1,if_pos (by omega),if_pos (by omega),d0,if_pos (by omega),e1,e3,l00Max_eq]
  simp only [Option.bind_some]
  rw [if_pos (by omega),if_pos (by omega),if_pos (by omega),agr_spec]
  simp only [Option.bind_some,Int.toNat_natCast]
  generalize hx : mx (lcsV a b (i + 1) q) (lcsV a b i (q + 1)) = x at *
  have f0 : rd_L6 (T.set i ((T.getD i []).set q x)) (i : Int) = (T.getD i []).set q x := getD_set_self (by omega)
  have f1 : rd_L6 (T.set i ((T.getD i []).set q x)) ((i : Int) + 1) = T.getD (i + 1) [] := by
   rw [show (i : Int) + 1 = ((i + 1 : Nat) : Int) by omega]
   exact getD_set_ne (by omega)
  by_cases hag : agr a b i q = true
  ·rw [if_pos hag] at hv
   have m := mx_ge (lcsV a b (i + 1) q) (lcsV a b i (q + 1))
   rw [hx] at m
   have s1 := lcsV_k (a := a) (b := b) (i + 1) q
   have s2 := lcsV_i (a := a) (b := b) i (q + 1)
   have s0 := lcsV_b (a := a) (b := b) i q
   have g0 : rd ((T.getD i []).set q x) (q : Int) = x := by
    have hq' : q < (T.getD i []).length := by omega
    revert hq'
    generalize T.getD i [] = r
    intro hq'
    simp [rd,List.getD_eq_getElem?_getD,List.getElem?_set_self hq']
   rw [if_pos hag,f0,if_pos (by rw [List.length_set];omega),f1,if_pos (by omega),g0,e2,w64 (n := 1 + lcsV a b (i + 1) (q + 1)) (by omega) (by omega),l00Max_eq]
   simp only [Option.bind_some]
   rw [List.set_set,List.set_set,w64 (by omega) (by omega),show mx x (1 + lcsV a b (i + 1) (q + 1)) = lcsV a b i q by unfold mx;split <;> omega]
  ·rw [if_neg hag] at hv
   rw [if_neg hag,w64 (by omega) (by omega),hv]
theorem specOuter {a b : List En} (ha : a.length ≤ 60) (hb : b.length ≤ 60) : ∀ j K T,j ≤ a.length → T.length = a.length + 1 → (∀ i',j ≤ i' → i' ≤ a.length → RowSt b.length (lcsV a b i') 0 (T.getD i' [])) → (∀ i',i' < j → T.getD i' [] = List.replicate (b.length + 1) 0) → spec_CommonOf.l0 (K + 1 + j * (b.length + 2)) a b T ((j : Int) - 1) = spec_CommonOf.l2 K a b (tabOf a.length b.length (lcsV a b)) [] 0 0 := by
 intro j
 induction j with
 | zero =>
  intro K T hj hl hr hp
  rw [Nat.zero_mul,Nat.add_zero,show ((0 : Nat) : Int) - 1 = -1 from rfl]
  simp only [spec_CommonOf.l0]
  rw [if_neg (by omega),tab_eq hl (fun i' hi' => hr i' (Nat.zero_le _) hi')]
 | succ j ih =>
  intro K T hj hl hr hp
  have hst : TabSt a.length b.length (lcsV a b) (fun r => r = List.replicate (b.length + 1) 0) j b.length T := by
   refine ⟨hl,fun i' hi' hm' => hr i' (by omega) hm',?_,fun i' hi' => hp i' (by omega)⟩
   rw [hp j (by omega)]
   refine ⟨by simp,fun k hk hn => ?_⟩
   obtain rfl : k = b.length := by omega
   rw [lcsV_end (.inr (Nat.le_refl _)),List.getElem?_replicate,if_pos (by omega)]
  obtain ⟨T',g1,g2⟩ := specInner ha hb (by omega : j < a.length) b.length (K + 1 + j * (b.length + 2) + 1) T (Nat.le_refl _) hst
  have hK : K + 1 + (j + 1) * (b.length + 2) = (K + 1 + j * (b.length + 2) + 1 + b.length) + 1 := by rw [Nat.succ_mul];omega
  rw [hK,show ((j + 1 : Nat) : Int) - 1 = (j : Int) by omega]
  generalize hK2 : K + 1 + j * (b.length + 2) + 1 + b.length = K2 at *
  simp only [spec_CommonOf.l0]
  rw [if_pos (by omega),w64 (by omega) (by omega),g2]
  generalize hK3 : K + 1 + j * (b.length + 2) = K3 at *
  simp only [spec_CommonOf.l1]
  rw [if_neg (by omega),w64 (by omega) (by omega),← hK3]
  refine ih K T' (by omega) g1.1 (fun i' hi' hm' => ?_) (fun i' hi' => g1.2.2.2 i' hi')
  rcases Nat.eq_or_lt_of_le hi' with e | e
  ·subst e
   exact g1.2.2.1
  ·exact g1.2.1 i' e hm'
theorem specRow {a b : List En} (ha : a.length ≤ 60) (hb : b.length ≤ 60) {i k : Nat} (hi : i < a.length) (hk : k ≤ b.length) (out : List St) (ho : out.length ≤ 60) (hinv : (out.length : Int) + lcsV a b i k = lcsV a b 0 0) (K : Nat) : ∀ d m,m + d = b.length → k ≤ m → (∀ j,j < m → pickF a b i k j = false) →
  spec_CommonOf.l3 (K + d + 1) a b (tabOf a.length b.length (lcsV a b)) out (k : Int) (i : Int) (m : Int) = (match pickAt a b i k with | some m' => spec_CommonOf.l2 (K + (b.length - m')) a b (tabOf a.length b.length (lcsV a b)) (out ++ [(⟨(i : Int),(m' : Int)⟩ : St)]) ((m' : Int) + 1) ((i : Int) + 1) | none => spec_CommonOf.l2 K a b (tabOf a.length b.length (lcsV a b)) out (k : Int) ((i : Int) + 1)) := by
 have t1 := tab_row (m := a.length) (n := b.length) (V := lcsV a b) (i := i + 1) (by omega)
 rw [show ((i + 1 : Nat) : Int) = (i : Int) + 1 by omega] at t1
 have t00 := tab_row (m := a.length) (n := b.length) (V := lcsV a b) (i := 0) (by omega)
 rw [show ((0 : Nat) : Int) = 0 from rfl] at t00
 have r00 := row_at (n := b.length) (V := lcsV a b 0) (k := 0) (by omega)
 rw [show ((0 : Nat) : Int) = 0 from rfl] at r00
 have tl := tab_len (m := a.length) (n := b.length) (V := lcsV a b)
 have rl := fun i => row_len (n := b.length) (V := lcsV a b i)
 intro d
 induction d with
 | zero =>
  intro m hm hkm hno
  have hnone : pickAt a b i k = none := by
   unfold pickAt
   rw [List.find?_eq_none]
   intro j hj
   rw [hno j (by have := List.mem_range.1 hj;omega)]
   simp
  rw [hnone]
  simp only [Nat.add_zero]
  simp only [spec_CommonOf.l3]
  rw [if_neg (by omega),w64 (by omega) (by omega)]
 | succ d ih =>
  intro m hm hkm hno
  have hml : m < b.length := by omega
  rw [show K + (d + 1) + 1 = (K + d + 1) + 1 by omega]
  generalize hK : K + d + 1 = K1
  simp only [spec_CommonOf.l3]
  have hrow1 := row_at (n := b.length) (V := lcsV a b (i + 1)) (k := m + 1) (by omega)
  rw [show ((m + 1 : Nat) : Int) = (m : Int) + 1 by omega] at hrow1
  have b1 := lcsV_b (a := a) (b := b) (i + 1) (m + 1)
  rw [if_pos (by omega),if_pos (by omega),if_pos (by omega),if_pos (by omega),agr_spec,w64 (n := (i : Int) + 1) (by omega) (by omega),w64 (n := (m : Int) + 1) (by omega) (by omega),t1,hrow1,w64 (n := (out.length : Int) + 1) (by omega) (by omega),w64 (n := (out.length : Int) + 1 + lcsV a b (i + 1) (m + 1)) (by omega) (by omega),t00,r00]
  simp only [Option.bind_some]
  have hnext : pickF a b i k m = false → spec_CommonOf.l3 K1 a b (tabOf a.length b.length (lcsV a b)) out (k : Int) (i : Int) ((m : Int) + 1) = (match pickAt a b i k with | some m' => spec_CommonOf.l2 (K + (b.length - m')) a b (tabOf a.length b.length (lcsV a b)) (out ++ [(⟨(i : Int),(m' : Int)⟩ : St)]) ((m' : Int) + 1) ((i : Int) + 1) | none => spec_CommonOf.l2 K a b (tabOf a.length b.length (lcsV a b)) out (k : Int) ((i : Int) + 1)) := fun hf => by
   have := ih (m + 1) (by omega) (by omega) (fun j hj => by
    rcases Nat.lt_succ_iff_lt_or_eq.1 hj with e | e
    ·exact hno j e
    ·subst e;exact hf)
   rw [hK] at this
   rwa [show ((m + 1 : Nat) : Int) = (m : Int) + 1 by omega] at this
  by_cases hag : agr a b i m = true
  ·rw [if_pos hag,if_pos (by omega),if_pos (by omega),if_pos (by omega),if_pos (by rw [rl];omega),if_pos (by omega),if_pos (by rw [rl];omega)]
   by_cases hv : lcsV a b (i + 1) (m + 1) = lcsV a b i k - 1
   ·rw [if_pos (by omega),if_pos (by omega)]
    have hs : pickAt a b i k = some m := by
     unfold pickAt
     rw [List.find?_range_eq_some]
     refine ⟨?_,by simpa using hml,fun j hj => by simp [hno j hj]⟩
     unfold pickF
     rw [decide_eq_true hkm,hag,decide_eq_true hv]
     rfl
    rw [hs,← hK]
    simp only
    rw [show K + (b.length - m) = K + d + 1 by omega]
   ·rw [if_neg (by omega)]
    exact hnext (by unfold pickF;rw [decide_eq_false hv,Bool.and_false,Bool.and_false])
  ·rw [if_neg hag]
   exact hnext (by unfold pickF;rw [show agr a b i m = false by simpa using hag,Bool.false_and,Bool.and_false])
theorem specSteps {a b : List En} (ha : a.length ≤ 60) (hb : b.length ≤ 60) : ∀ d k (out : List St) K,d ≤ a.length → k ≤ b.length → out.length + d ≤ 60 → (out.length : Int) + lcsV a b (a.length - d) k = lcsV a b 0 0 → 70 * d + 1 ≤ K → spec_CommonOf.l2 K a b (tabOf a.length b.length (lcsV a b)) out (k : Int) ((a.length - d : Nat) : Int) = some (out ++ picks a b d k,0) := by
 intro d
 induction d with
 | zero =>
  intro k out K hd hk ho hinv hK
  obtain ⟨K,rfl⟩ : ∃ m,K = m + 1 := ⟨K - 1,by omega⟩
  simp only [spec_CommonOf.l2,Nat.sub_zero]
  rw [if_neg (by omega),picks,List.append_nil]
 | succ d ih =>
  intro k out K hd hk ho hinv hK
  have hil : a.length - (d + 1) < a.length := by omega
  have hn1 : ((a.length - d : Nat) : Int) = ((a.length - (d + 1) : Nat) : Int) + 1 := by omega
  obtain ⟨K,rfl⟩ : ∃ m,K = (m + (b.length - k) + 1) + 1 := ⟨K - (b.length - k) - 2,by omega⟩
  have e := specRow ha hb hil hk out (by omega) hinv K (b.length - k) k (by omega) (Nat.le_refl _) (fun j hj => by
   unfold pickF
   rw [decide_eq_false (by omega),Bool.false_and])
  generalize hK2 : K + (b.length - k) + 1 = K2 at *
  simp only [spec_CommonOf.l2]
  rw [if_pos (by omega),e,picks]
  cases hpk : pickAt a b (a.length - (d + 1)) k with
  | some m =>
   obtain ⟨p1,p2,p3,p4,p5⟩ := pickAt_some hpk
   simp only
   have := ih (m + 1) (out ++ [(⟨((a.length - (d + 1) : Nat) : Int),(m : Int)⟩ : St)]) (K + (b.length - m)) (by omega) (by omega) (by rw [List.length_append,List.length_singleton];omega) (by
    rw [List.length_append,List.length_singleton,show a.length - d = a.length - (d + 1) + 1 by omega]
    omega) (by omega)
   rw [hn1,show ((m + 1 : Nat) : Int) = (m : Int) + 1 by omega] at this
   rw [this,List.append_assoc]
   rfl
  | none =>
   have hps := pick_pass hil hk hpk
   simp only
   have := ih k out K (by omega) hk (by omega) (by rw [show a.length - d = a.length - (d + 1) + 1 by omega,hps];exact hinv) (by omega)
   rw [hn1] at this
   exact this
theorem specCommon_eq {k : Nat} {a b : List En} (hk : 100100 ≤ k) : spec_CommonOf.f k a b = some (resCommon a b) := by
 unfold spec_CommonOf.f resCommon
 rw [specOk_log (by omega),specOk_log (by omega)]
 simp only [Option.bind_some]
 obtain ⟨k,rfl⟩ : ∃ j,k = j + 1 := ⟨k - 1,by omega⟩
 cases h1 : validG a with
 | false => simp [spec_CommonOf.j0]
 | true =>
  cases h2 : validG b with
  | false => simp [spec_CommonOf.j0]
  | true =>
   have ha := (valid_parts h1).1
   have hb := (valid_parts h2).1
   simp only [if_true,and_self,Bool.not_true]
   simp only [spec_CommonOf.j0]
   rw [if_neg (by simp),specBegin_eq ha hb (by omega)]
   simp only [Option.bind_some]
   rw [w64 (by omega) (by omega)]
   have hm : a.length * (b.length + 2) ≤ 60 * 62 := Nat.mul_le_mul ha (by omega)
   have e := specOuter ha hb a.length (k - 1 - a.length * (b.length + 2)) (List.replicate (a.length + 1) (List.replicate (b.length + 1) 0)) (Nat.le_refl _) (by simp) (fun i' h3 h4 => by
    obtain rfl : i' = a.length := by omega
    rw [List.getD_eq_getElem?_getD,List.getElem?_replicate,if_pos (by omega)]
    refine ⟨by simp,fun k hk hn => ?_⟩
    simp only [Option.getD_some]
    rw [lcsV_end (.inl (Nat.le_refl _)),List.getElem?_replicate,if_pos (by omega)]) (fun i' hi' => by
    rw [List.getD_eq_getElem?_getD,List.getElem?_replicate,if_pos (by omega)]
    rfl)
   rw [show k - 1 - a.length * (b.length + 2) + 1 + a.length * (b.length + 2) = k by omega] at e
   rw [e]
   have e2 := specSteps ha hb a.length 0 [] (k - 1 - a.length * (b.length + 2)) (Nat.le_refl _) (Nat.zero_le _) (by simpa using ha) (by simp [Nat.sub_self]) (by omega)
   rw [Nat.sub_self] at e2
   exact e2
theorem resCommon_len {a b : List En} : (resCommon a b).1.length ≤ 1048576 := by
 unfold resCommon
 by_cases hv : validG a = true ∧ validG b = true
 ·rw [if_pos hv]
  have := picks_len (a := a) (b := b) a.length 0
  have := (valid_parts hv.1).1
  simp only
  omega
 ·rw [if_neg hv]
  simp
end Go.Proofs.Ytidkniacmcbgiaa.G.Pure
end

section
namespace Go.Proofs.Ytidkniacmcbgiaa.G.Pure
open Go.RowKit Go.Proofs.Ytidkniacmcbgiaa.G Go.Proofs.YtidkniacmcbgiaaW.PrintWords Go.Proofs.YtidkniacmcbgiaaW.PrintLast Go.Proofs.YtidkniacmcbgiaaW.PrintMore
set_option linter.unusedVariables false
set_option linter.unusedSimpArgs false
theorem szLog_big {l : List (S75)} (h : l.length ≤ 9223372036854775807) (hL : ¬ l.length ≤ 1048576) : laws_szLog.f l 1048576 = some (-1) := by
 rw [szLog_eq _ _ (by omega) (by omega) h,if_pos (by omega)]
end Go.Proofs.Ytidkniacmcbgiaa.G.Pure
end

section
namespace Go.Proofs.Ytidkniacmcbgiaa.G.Pure
open Go.RowKit Go.Proofs.Ytidkniacmcbgiaa.G Go.Proofs.YtidkniacmcbgiaaW.PrintWords Go.Proofs.YtidkniacmcbgiaaW.PrintLast Go.Proofs.YtidkniacmcbgiaaW.PrintMore
set_option linter.unusedVariables false
set_option linter.unusedSimpArgs false
theorem markLog_from (k : Nat) (a : List En) (m0 : Int) (hl : a.length ≤ 1048576) (hk : a.length < k) (h0 : 0 ≤ m0) (h1 : m0 ≤ 4000000000000000000) : ∃ l m,laws_markLog.f k a m0 = some (m,l) ∧ 0 ≤ m ∧ m ≤ m0 + 4000000 := by
 obtain ⟨r,⟨h1,h2⟩,h⟩ := loop_inv (fun k (s : List En × Int × Int) => laws_markLog.l0 k s.1 s.2.1 s.2.2) a.length
  (fun i s => s.2.2 = (i : Int) ∧ s.2.1 = m0 + 3 * (i : Int) ∧ s.1.length = a.length)
  (fun r => r.1 = m0 + 3 * (a.length : Int) ∧ True)
  (fun k i s hi ⟨h1,h2,h3⟩ => by
   obtain ⟨acc,m,x⟩ := s
   simp only at h1 h2 h3
   subst h1 h2
   have hia : i < acc.length := by omega
   refine .inl ⟨(acc.set i ⟨m0 + 3 * (i : Int),m0 + 3 * (i : Int) + 1,Int.tmod (m0 + 3 * (i : Int) + 1 + 1) 3 == 0⟩,m0 + 3 * ((i + 1 : Nat) : Int),((i + 1 : Nat) : Int)),⟨rfl,rfl,by simpa using h3⟩,?_⟩
   simp only [laws_markLog.l0]
   rw [if_pos (by omega),if_pos (by omega)]
   simp only [Option.bind_some,Int.toNat_natCast]
   rw [w64 (n := m0 + 3 * (i : Int) + 1) (by omega) (by omega),w64 (n := m0 + 3 * (i : Int) + 1 + 1) (by omega) (by omega),w64 (n := m0 + 3 * (i : Int) + 1 + 1 + 1) (by omega) (by omega),w64 (n := (i : Int) + 1) (by omega) (by omega)]
   simp only [rd_set_Entry,hia,List.set_set,List.length_set]
   rw [show m0 + 3 * (i : Int) + 1 + 1 + 1 = m0 + 3 * ((i + 1 : Nat) : Int) by omega]
   rfl)
  (fun k s ⟨h1,h2,h3⟩ => by
   obtain ⟨acc,m,x⟩ := s
   simp only at h1 h2 h3
   subst h1 h2
   refine ⟨(m0 + 3 * (a.length : Int),acc),⟨rfl,trivial⟩,?_⟩
   simp only [laws_markLog.l0]
   rw [if_neg (by omega)]) k (a,m0,0) ⟨rfl,by simp,rfl⟩ hk
 obtain ⟨m,l⟩ := r
 simp only at h1
 exact ⟨l,m,h,by omega,by omega⟩
end Go.Proofs.Ytidkniacmcbgiaa.G.Pure
end

section
namespace Go.Proofs.Ytidkniacmcbgiaa.G.Pure
open Go.RowKit Go.Proofs.Ytidkniacmcbgiaa.G Go.Proofs.YtidkniacmcbgiaaW.PrintWords Go.Proofs.YtidkniacmcbgiaaW.PrintLast Go.Proofs.YtidkniacmcbgiaaW.PrintMore
set_option linter.unusedVariables false
set_option linter.unusedSimpArgs false
def markP (i : Nat) : St := ⟨1 + 2 * (i : Int),1 + 2 * (i : Int) + 1⟩
theorem markStepS_held (k : Nat) (a : List St) (hl : a.length ≤ 1048576) (hk : a.length < k) : ∃ l m,laws_markStepS.f k a 1 = some (m,l) ∧ (∀ k',a.length < k' → laws_heldStepS.f k' l 1 = some m) ∧ 0 ≤ m := by
 obtain ⟨r,⟨h1,h2,h3⟩,h⟩ := loop_inv (fun k (s : List St × Int × Int) => laws_markStepS.l0 k s.1 s.2.1 s.2.2) a.length
  (fun i s => s.2.2 = (i : Int) ∧ s.2.1 = 1 + 2 * (i : Int) ∧ s.1.length = a.length ∧ ∀ j (h : j < s.1.length),j < i → s.1[j] = markP j)
  (fun r => r.1 = 1 + 2 * (a.length : Int) ∧ r.2.length = a.length ∧ ∀ j (h : j < r.2.length),r.2[j] = markP j)
  (fun k i s hi ⟨h1,h2,h3,h4⟩ => by
   obtain ⟨acc,m,x⟩ := s
   simp only at h1 h2 h3 h4
   subst h1 h2
   refine .inl ⟨(acc.set i (markP i),1 + 2 * ((i + 1 : Nat) : Int),((i + 1 : Nat) : Int)),⟨rfl,rfl,by simpa using h3,fun j hj hji => ?_⟩,?_⟩
   ·simp only [List.getElem_set]
    split
    ·rename_i e;subst e;rfl
    ·simp only [List.length_set] at hj
     exact h4 j hj (by omega)
   ·have hia : i < acc.length := by omega
    simp only [laws_markStepS.l0]
    rw [if_pos (by omega),if_pos (by omega)]
    simp only [Option.bind_some,Int.toNat_natCast]
    rw [w64 (n := 1 + 2 * (i : Int) + 1) (by omega) (by omega),w64 (n := 1 + 2 * (i : Int) + 1 + 1) (by omega) (by omega),w64 (n := (i : Int) + 1) (by omega) (by omega)]
    simp only [rd_set_Step,hia,List.set_set,List.length_set]
    rw [show 1 + 2 * (i : Int) + 1 + 1 = 1 + 2 * ((i + 1 : Nat) : Int) by omega]
    rfl)
  (fun k s ⟨h1,h2,h3,h4⟩ => by
   obtain ⟨acc,m,x⟩ := s
   simp only at h1 h2 h3 h4
   subst h1 h2
   refine ⟨(1 + 2 * (a.length : Int),acc),⟨rfl,h3,fun j hj => h4 j hj (by rw [← h3];exact hj)⟩,?_⟩
   simp only [laws_markStepS.l0]
   rw [if_neg (by omega)]) k (a,1,0) ⟨rfl,rfl,rfl,fun j _ h => absurd h (Nat.not_lt_zero _)⟩ hk
 obtain ⟨m,l⟩ := r
 simp only at h1 h2 h3
 refine ⟨l,m,h,fun k' hk' => ?_,by omega⟩
 obtain ⟨r,hr,h'⟩ := loop_inv (fun k (s : Int × Int) => laws_heldStepS.l0 k l s.1 s.2) l.length (fun i s => s.2 = (i : Int) ∧ s.1 = 1 + 2 * (i : Int)) (fun r => r = m)
  (fun k i s hi ⟨g1,g2⟩ => by
   obtain ⟨m',x⟩ := s
   simp only at g1 g2
   subst g1 g2
   refine .inl ⟨(1 + 2 * ((i + 1 : Nat) : Int),((i + 1 : Nat) : Int)),⟨rfl,rfl⟩,?_⟩
   simp only [laws_heldStepS.l0]
   rw [w64 (n := 1 + 2 * (i : Int) + 1) (by omega) (by omega),w64 (n := 1 + 2 * (i : Int) + 1 + 1) (by omega) (by omega),w64 (n := (i : Int) + 1) (by omega) (by omega)]
   rw [if_pos (by omega),if_pos (by omega),rd_impl_Step hi,h3 i hi,if_pos (show (markP i).f0 = 1 + 2 * (i : Int) from rfl),if_pos (show (markP i).f1 = 1 + 2 * (i : Int) + 1 from rfl),show 1 + 2 * (i : Int) + 1 + 1 = 1 + 2 * ((i + 1 : Nat) : Int) by omega]
   rfl)
  (fun k s ⟨g1,g2⟩ => by
   obtain ⟨m',x⟩ := s
   simp only at g1 g2
   subst g1 g2
   refine ⟨m,rfl,?_⟩
   simp only [laws_heldStepS.l0]
   rw [if_neg (by omega),h1,h2]) k' (1,0) ⟨rfl,rfl⟩ (by omega)
 subst hr
 exact h'
end Go.Proofs.Ytidkniacmcbgiaa.G.Pure
end

section
namespace Go.Proofs.Ytidkniacmcbgiaa.G.Pure
open Go.RowKit Go.Proofs.Ytidkniacmcbgiaa.G Go.Proofs.YtidkniacmcbgiaaW.PrintWords Go.Proofs.YtidkniacmcbgiaaW.PrintLast Go.Proofs.YtidkniacmcbgiaaW.PrintMore
set_option linter.unusedVariables false
set_option linter.unusedSimpArgs false
theorem FnExactCommonOf (l0 : List (S75)) (l1 : List (S75)) (h00 : l0.length ≤ 9223372036854775807) (h01 : (∀ x ∈ l0,(Lit.int .i64 x.f0).wf = true ∧ (Lit.int .i64 x.f1).wf = true ∧ True)) (h10 : l1.length ≤ 9223372036854775807) (h11 : (∀ x ∈ l1,(Lit.int .i64 x.f0).wf = true ∧ (Lit.int .i64 x.f1).wf = true ∧ True)) : ∃ k,laws_FnExactCommonOf.f k l0 l1 = some true := by
 by_cases hL : l0.length ≤ 1048576
 ·by_cases hM : (1048576 : Int) - l0.length - l1.length < 0
  ·refine ⟨0,?_⟩
   unfold laws_FnExactCommonOf.f
   rw [szLog_eq _ _ (by omega) (by omega) h00,if_neg (by omega)]
   simp only [Option.bind_some]
   rw [if_neg (by omega),szLog_eq _ _ (by omega) (by omega) h10,if_pos (by omega)]
   rfl
  ·obtain ⟨k,hk⟩ : ∃ k,1100000 < k := ⟨_,Nat.lt_succ_self _⟩
   refine ⟨k + 4,?_⟩
   have hL' : (l0.map entryOf).length ≤ 1048576 := by simpa using hL
   have hM' : (l1.map entryOf).length ≤ 1048576 := by rw [List.length_map];omega
   have hr := resCommon_len (a := l0.map entryOf) (b := l1.map entryOf)
   have e1 := fun j => toLog_eq (k + j) l0 hL (by omega)
   have e2 := fun j => toLog_eq (k + j) l1 (by omega) (by omega)
   have q1 := fun j => eqLog_self (k + j) (l0.map entryOf) hL' (by omega)
   have q2 := fun j => eqLog_self (k + j) (l1.map entryOf) hM' (by omega)
   have s1 := fun j => specCommon_eq (k := k + j) (a := l0.map entryOf) (b := l1.map entryOf) (by omega)
   have i1 := fun j => implCommon_eq (k := k + j) hL' hM' (by omega)
   have t1 := fun j => eqStepS_self (k + j) (resCommon (l0.map entryOf) (l1.map entryOf)).1 (by omega) (by omega)
   obtain ⟨x1,m1,hm1,hm10,hm11⟩ := markLog_from (k + 3) (l0.map entryOf) 1 hL' (by omega) (by omega) (by omega)
   obtain ⟨x2,m2,hm2,hm20,_⟩ := markLog_from (k + 3) (l1.map entryOf) m1 hM' (by omega) hm10 (by omega)
   obtain ⟨l,m',ha,hb,hm3⟩ := markStepS_held (k + 2) (resCommon (l0.map entryOf) (l1.map entryOf)).1 (by omega) (by omega)
   have hb0 := hb (k + 1) (by omega)
   have hb1 := hb (k + 2) (by omega)
   generalize resCommon (l0.map entryOf) (l1.map entryOf) = res at *
   unfold laws_FnExactCommonOf.f
   rw [szLog_eq _ _ (by omega) (by omega) h00,if_neg (by omega)]
   simp only [Option.bind_some]
   rw [if_neg (by omega),szLog_eq _ _ (by omega) (by omega) h10,if_neg (by omega)]
   simp only [Option.bind_some]
   rw [if_neg (by omega)]
   simp [laws_FnExactCommonOf.j0,laws_FnExactCommonOf.j1,laws_FnExactCommonOf.j2,e1,e2,q1,q2,s1,i1,t1,hm1,hm2,ha,hb0,hb1,Int.not_lt.2 hm20,Int.not_lt.2 hm3]
 ·refine ⟨0,?_⟩
  unfold laws_FnExactCommonOf.f
  rw [szLog_big h00 hL]
  rfl
end Go.Proofs.Ytidkniacmcbgiaa.G.Pure
end
