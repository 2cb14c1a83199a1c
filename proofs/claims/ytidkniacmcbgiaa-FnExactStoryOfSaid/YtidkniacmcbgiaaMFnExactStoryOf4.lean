/- The law's functions, their contracts, and the plain lemmas: texts of this claim, laid together. -/
import Derived.Deep.Slices
import Derived.Deep.Fields
import Derived.ChangeSame
import Derived.OpenShut
import Derived.Test.YtidkniacmcbgiaaMFnExactStoryOf0
import Derived.Test.YtidkniacmcbgiaaMFnExactStoryOf1
import Derived.Test.YtidkniacmcbgiaaMFnExactStoryOf2
import Derived.Test.YtidkniacmcbgiaaMFnExactStoryOf3
section
namespace Go.Proofs.Ytidkniacmcbgiaa.G
open Go.RowKit Go.Proofs.YtidkniacmcbgiaaW.PrintWords Go.Proofs.YtidkniacmcbgiaaW.PrintLast Go.Proofs.YtidkniacmcbgiaaW.PrintMore
attribute [local go_sem] max2_int min2_int max_two min_two max_three min_three max_four min_four
set_option linter.unusedVariables false
set_option linter.unusedSimpArgs false
mutual
def laws_FnExactStoryOf.j0 : Nat → List (S75) → List (S75) → List (S100) → Int → List (S73) → List (S73) → List (S100) → Int → Bool → Option (Bool)
 | 0,_,_,_,_,_,_,_,_,_ => none
 | k + 1,x0,x1,x6,x7,x8,x9,x10,x11,x53 => if x53 = true then (some false) else ((laws_toLog.f k x0).bind fun t124 => ((laws_eqLog.f k x8 t124).bind fun t127 => (if t127 = true then ((laws_toLog.f k x1).bind fun t128 => ((laws_eqLog.f k x9 t128).bind fun t131 => (if t131 = true then ((laws_markLog.f k x8 1).bind fun bt132 => ((laws_markLog.f k x9 bt132.1).bind fun bt134 => (if bt134.1 < 0 then (laws_FnExactStoryOf.j1 k x0 x1 x6 x7 x10 true) else ((laws_eqStepS.f k x10 x6).bind fun t136 => (if t136 = true then (laws_FnExactStoryOf.j1 k x0 x1 x6 x7 x10 (x11 != x7)) else (laws_FnExactStoryOf.j1 k x0 x1 x6 x7 x10 true)))))) else (some false)))) else (some false))))
def laws_FnExactStoryOf.j1 : Nat → List (S75) → List (S75) → List (S100) → Int → List (S100) → Bool → Option (Bool)
 | 0,_,_,_,_,_,_ => none
 | k + 1,x0,x1,x6,x7,x10,x82 => if x82 = true then (some false) else ((laws_markStepS.f k x10 1).bind fun bt137 => ((laws_heldStepS.f k bt137.2 1).bind fun t139 => (if t139 < 0 then (some false) else (if t139 = bt137.1 then ((laws_toLog.f k x0).bind fun t140 => ((laws_toLog.f k x1).bind fun t143 => ((impl_StoryOf.f k t140 t143).bind fun bt146 => ((laws_eqStepS.f k bt146.1 x6).bind fun t150 => (if t150 = true then (laws_FnExactStoryOf.j2 k bt137.2 bt137.1 (bt146.2 != x7)) else (laws_FnExactStoryOf.j2 k bt137.2 bt137.1 true)))))) else (some false)))))
def laws_FnExactStoryOf.j2 : Nat → List (S100) → Int → Bool → Option (Bool)
 | 0,_,_,_ => none
 | k + 1,x10,x13,x110 => if x110 = true then (some false) else ((laws_heldStepS.f k x10 1).bind fun t151 => (if t151 < 0 then (some false) else (if t151 = x13 then (some true) else (some false))))
end
def laws_FnExactStoryOf.f (k : Nat) (l0 : List (S75)) (l1 : List (S75)) : Option (Bool) := (laws_szLog.f l0 1048576).bind fun t101 => (if t101 < 0 then (some true) else ((laws_szLog.f l1 t101).bind fun t102 => (if t102 < 0 then (some true) else ((laws_toLog.f k l0).bind fun t103 => ((laws_toLog.f k l1).bind fun t106 => ((spec_StoryOf.f k t103 t106).bind fun bt109 => ((laws_toLog.f k l0).bind fun t113 => ((laws_toLog.f k l1).bind fun t116 => ((impl_StoryOf.f k t113 t116).bind fun bt119 => ((laws_eqStepS.f k bt119.1 bt109.1).bind fun t123 => (if t123 = true then (laws_FnExactStoryOf.j0 k l0 l1 bt109.1 bt109.2 t113 t116 bt119.1 bt119.2 (bt119.2 != bt109.2)) else (laws_FnExactStoryOf.j0 k l0 l1 bt109.1 bt109.2 t113 t116 bt119.1 bt119.2 true))))))))))))
set_option maxHeartbeats 8000000 in
set_option maxRecDepth 100000 in
theorem laws_FnExactStoryOf.calls (k : Nat) (A0 : Option Addr) (c0 : Nat) (l0 : List (S75)) (A1 : Option Addr) (c1 : Nat) (l1 : List (S75)) (r : Bool) (w : World) (hr0 : Kd.C k75 w A0 l0.length l0) (hc0 : l0.length ≤ c0) (hr1 : Kd.C k75 w A1 l1.length l1) (hc1 : l1.length ≤ c1) (h : laws_FnExactStoryOf.f k l0 l1 = some r) :
  Calls Try.prog 15 #[.slice A0 l0.length c0,.slice A1 l1.length c1] w fun e w' => e = .returned (.bool r) ∧ Below w.heap.size w w' := by
 have HR0 := Aside0.mk hr0;have HC0 := Aside0.mk hc0;clear hr0 hc0;have HR1 := Aside0.mk hr1;have HC1 := Aside0.mk hc1;clear hr1 hc1;have HB := Aside0.mk (Below.refl w.heap.size w);have H : ((laws_szLog.f l0 1048576).bind fun t101 => (if t101 < 0 then (some true) else ((laws_szLog.f l1 t101).bind fun t102 => (if t102 < 0 then (some true) else ((laws_toLog.f k l0).bind fun t103 => ((laws_toLog.f k l1).bind fun t106 => ((spec_StoryOf.f k t103 t106).bind fun bt109 => ((laws_toLog.f k l0).bind fun t113 => ((laws_toLog.f k l1).bind fun t116 => ((impl_StoryOf.f k t113 t116).bind fun bt119 => ((laws_eqStepS.f k bt119.1 bt109.1).bind fun t123 => (if t123 = true then (laws_FnExactStoryOf.j0 k l0 l1 bt109.1 bt109.2 t113 t116 bt119.1 bt119.2 (bt119.2 != bt109.2)) else (laws_FnExactStoryOf.j0 k l0 l1 bt109.1 bt109.2 t113 t116 bt119.1 bt119.2 true))))))))))))) = some r := h;clear h;replace H := Option.bind_eq_some_iff.mp H;obtain ⟨t101,A30,H⟩ := H;replace H : (if t101 < 0 then (some true) else ((laws_szLog.f l1 t101).bind fun t102 => (if t102 < 0 then (some true) else ((laws_toLog.f k l0).bind fun t103 => ((laws_toLog.f k l1).bind fun t106 => ((spec_StoryOf.f k t103 t106).bind fun bt109 => ((laws_toLog.f k l0).bind fun t113 => ((laws_toLog.f k l1).bind fun t116 => ((impl_StoryOf.f k t113 t116).bind fun bt119 => ((laws_eqStepS.f k bt119.1 bt109.1).bind fun t123 => (if t123 = true then (laws_FnExactStoryOf.j0 k l0 l1 bt109.1 bt109.2 t113 t116 bt119.1 bt119.2 (bt119.2 != bt109.2)) else (laws_FnExactStoryOf.j0 k l0 l1 bt109.1 bt109.2 t113 t116 bt119.1 bt119.2 true)))))))))))) = some r := H;have A3 := Aside0.mk A30;clear A30
 by_cases c4 : t101 < 0
 ·rw [if_pos c4] at H;have c4b0 : decide (t101 < 0) = true := decide_eq_true c4;clear c4;obtain rfl := Option.some.inj H
  go_enter Try.func15,Try.ntmps15
  go_wp2_with (first | ((with_reducible refine gate_callee (f := 19) rfl ?_);refine goesL_ (some 19) rfl rfl Try.func19 (by kernel_rfl) rfl #[.slice A0 l0.length c0,.int .i64 1048576] rfl (by (try simp only [List.map_toArray,List.map_cons,List.map_nil]);first | done | rfl | (simp only [List.length_drop,List.length_take];rfl)) ?_;(with_reducible refine (laws_szLog.calls _ _ l0 1048576 t101 _ ?side1 ?side2 A3.out).mono ?_);(case side1 => repeat (first | exact HR0.out | (with_reducible refine Kd.C_alloc ?_ _) | (with_reducible refine Kd.C_drewN ?_ _) | (with_reducible refine Kd.C_drew ?_)));(case side2 => exact HC0.out);rintro e w' ⟨rfl,⟨nd,rfl⟩⟩;refine ⟨_,rfl,?_⟩))
  go_ret
  exact ⟨by first | rfl | (simp [errW_none,errW_some,IntKind.wrap_i64,wrap64];done) | (simp [errW_none,errW_some] <;> rfl) | (simp [*,errW_none,errW_some] <;> rfl),by repeat (first | (with_reducible first | exact HB.out | apply below_alloc | apply pw_below_drewN | apply below_drew1) | exact HB.out)⟩
 ·rw [if_neg c4] at H;have c4b0 : decide (t101 < 0) = false := decide_eq_false c4;clear c4;replace H := Option.bind_eq_some_iff.mp H;obtain ⟨t102,A50,H⟩ := H;replace H : (if t102 < 0 then (some true) else ((laws_toLog.f k l0).bind fun t103 => ((laws_toLog.f k l1).bind fun t106 => ((spec_StoryOf.f k t103 t106).bind fun bt109 => ((laws_toLog.f k l0).bind fun t113 => ((laws_toLog.f k l1).bind fun t116 => ((impl_StoryOf.f k t113 t116).bind fun bt119 => ((laws_eqStepS.f k bt119.1 bt109.1).bind fun t123 => (if t123 = true then (laws_FnExactStoryOf.j0 k l0 l1 bt109.1 bt109.2 t113 t116 bt119.1 bt119.2 (bt119.2 != bt109.2)) else (laws_FnExactStoryOf.j0 k l0 l1 bt109.1 bt109.2 t113 t116 bt119.1 bt119.2 true)))))))))) = some r := H;have A5 := Aside0.mk A50;clear A50
  by_cases c6 : t102 < 0
  ·rw [if_pos c6] at H;have c6b0 : decide (t102 < 0) = true := decide_eq_true c6;clear c6;obtain rfl := Option.some.inj H
   go_enter Try.func15,Try.ntmps15
   go_wp2_with (first | ((with_reducible refine gate_callee (f := 19) rfl ?_);refine goesL_ (some 19) rfl rfl Try.func19 (by kernel_rfl) rfl #[.slice A0 l0.length c0,.int .i64 1048576] rfl (by (try simp only [List.map_toArray,List.map_cons,List.map_nil]);first | done | rfl | (simp only [List.length_drop,List.length_take];rfl)) ?_;(with_reducible refine (laws_szLog.calls _ _ l0 1048576 t101 _ ?side1 ?side2 A3.out).mono ?_);(case side1 => repeat (first | exact HR0.out | (with_reducible refine Kd.C_alloc ?_ _) | (with_reducible refine Kd.C_drewN ?_ _) | (with_reducible refine Kd.C_drew ?_)));(case side2 => exact HC0.out);rintro e w' ⟨rfl,⟨nd,rfl⟩⟩;refine ⟨_,rfl,?_⟩) | ((with_reducible refine gate_callee (f := 19) rfl ?_);refine goesL_ (some 24) rfl rfl Try.func19 (by kernel_rfl) rfl #[.slice A1 l1.length c1,.int .i64 t101] rfl (by (try simp only [List.map_toArray,List.map_cons,List.map_nil]);first | done | rfl | (simp only [List.length_drop,List.length_take];rfl)) ?_;(with_reducible refine (laws_szLog.calls _ _ l1 t101 t102 _ ?side1 ?side2 A5.out).mono ?_);(case side1 => repeat (first | exact HR1.out | (with_reducible refine Kd.C_alloc ?_ _) | (with_reducible refine Kd.C_drewN ?_ _) | (with_reducible refine Kd.C_drew ?_)));(case side2 => exact HC1.out);rintro e w' ⟨rfl,⟨nd,rfl⟩⟩;refine ⟨_,rfl,?_⟩))
   go_ret
   exact ⟨by first | rfl | (simp [errW_none,errW_some,IntKind.wrap_i64,wrap64];done) | (simp [errW_none,errW_some] <;> rfl) | (simp [*,errW_none,errW_some] <;> rfl),by repeat (first | (with_reducible first | exact HB.out | apply below_alloc | apply pw_below_drewN | apply below_drew1) | exact HB.out)⟩
  ·rw [if_neg c6] at H;have c6b0 : decide (t102 < 0) = false := decide_eq_false c6;clear c6;replace H := Option.bind_eq_some_iff.mp H;obtain ⟨t103,A70,H⟩ := H;replace H : ((laws_toLog.f k l1).bind fun t106 => ((spec_StoryOf.f k t103 t106).bind fun bt109 => ((laws_toLog.f k l0).bind fun t113 => ((laws_toLog.f k l1).bind fun t116 => ((impl_StoryOf.f k t113 t116).bind fun bt119 => ((laws_eqStepS.f k bt119.1 bt109.1).bind fun t123 => (if t123 = true then (laws_FnExactStoryOf.j0 k l0 l1 bt109.1 bt109.2 t113 t116 bt119.1 bt119.2 (bt119.2 != bt109.2)) else (laws_FnExactStoryOf.j0 k l0 l1 bt109.1 bt109.2 t113 t116 bt119.1 bt119.2 true)))))))) = some r := H;have A7 := Aside0.mk A70;clear A70;replace H := Option.bind_eq_some_iff.mp H;obtain ⟨t106,A80,H⟩ := H;replace H : ((spec_StoryOf.f k t103 t106).bind fun bt109 => ((laws_toLog.f k l0).bind fun t113 => ((laws_toLog.f k l1).bind fun t116 => ((impl_StoryOf.f k t113 t116).bind fun bt119 => ((laws_eqStepS.f k bt119.1 bt109.1).bind fun t123 => (if t123 = true then (laws_FnExactStoryOf.j0 k l0 l1 bt109.1 bt109.2 t113 t116 bt119.1 bt119.2 (bt119.2 != bt109.2)) else (laws_FnExactStoryOf.j0 k l0 l1 bt109.1 bt109.2 t113 t116 bt119.1 bt119.2 true))))))) = some r := H;have A8 := Aside0.mk A80;clear A80;replace H := Option.bind_eq_some_iff.mp H;obtain ⟨⟨t109,t110⟩,A90,H⟩ := H;replace H : ((laws_toLog.f k l0).bind fun t113 => ((laws_toLog.f k l1).bind fun t116 => ((impl_StoryOf.f k t113 t116).bind fun bt119 => ((laws_eqStepS.f k bt119.1 t109).bind fun t123 => (if t123 = true then (laws_FnExactStoryOf.j0 k l0 l1 t109 t110 t113 t116 bt119.1 bt119.2 (bt119.2 != t110)) else (laws_FnExactStoryOf.j0 k l0 l1 t109 t110 t113 t116 bt119.1 bt119.2 true)))))) = some r := H;have A9 := Aside0.mk A90;clear A90;replace H := Option.bind_eq_some_iff.mp H;obtain ⟨t113,A100,H⟩ := H;replace H : ((laws_toLog.f k l1).bind fun t116 => ((impl_StoryOf.f k t113 t116).bind fun bt119 => ((laws_eqStepS.f k bt119.1 t109).bind fun t123 => (if t123 = true then (laws_FnExactStoryOf.j0 k l0 l1 t109 t110 t113 t116 bt119.1 bt119.2 (bt119.2 != t110)) else (laws_FnExactStoryOf.j0 k l0 l1 t109 t110 t113 t116 bt119.1 bt119.2 true))))) = some r := H;have A10 := Aside0.mk A100;clear A100;replace H := Option.bind_eq_some_iff.mp H;obtain ⟨t116,A110,H⟩ := H;replace H : ((impl_StoryOf.f k t113 t116).bind fun bt119 => ((laws_eqStepS.f k bt119.1 t109).bind fun t123 => (if t123 = true then (laws_FnExactStoryOf.j0 k l0 l1 t109 t110 t113 t116 bt119.1 bt119.2 (bt119.2 != t110)) else (laws_FnExactStoryOf.j0 k l0 l1 t109 t110 t113 t116 bt119.1 bt119.2 true)))) = some r := H;have A11 := Aside0.mk A110;clear A110;replace H := Option.bind_eq_some_iff.mp H;obtain ⟨⟨t119,t120⟩,A120,H⟩ := H;replace H : ((laws_eqStepS.f k t119 t109).bind fun t123 => (if t123 = true then (laws_FnExactStoryOf.j0 k l0 l1 t109 t110 t113 t116 t119 t120 (t120 != t110)) else (laws_FnExactStoryOf.j0 k l0 l1 t109 t110 t113 t116 t119 t120 true))) = some r := H;have A12 := Aside0.mk A120;clear A120;have HC13 := Aside0.mk H;clear H
   go_enter Try.func15,Try.ntmps15
   go_upto_region 12 with (first | ((with_reducible refine gate_callee (f := 19) rfl ?_);refine goesL_ (some 19) rfl rfl Try.func19 (by kernel_rfl) rfl #[.slice A0 l0.length c0,.int .i64 1048576] rfl (by (try simp only [List.map_toArray,List.map_cons,List.map_nil]);first | done | rfl | (simp only [List.length_drop,List.length_take];rfl)) ?_;(with_reducible refine (laws_szLog.calls _ _ l0 1048576 t101 _ ?side1 ?side2 A3.out).mono ?_);(case side1 => repeat (first | exact HR0.out | (with_reducible refine Kd.C_alloc ?_ _) | (with_reducible refine Kd.C_drewN ?_ _) | (with_reducible refine Kd.C_drew ?_)));(case side2 => exact HC0.out);rintro e w' ⟨rfl,⟨nd,rfl⟩⟩;refine ⟨_,rfl,?_⟩) | ((with_reducible refine gate_callee (f := 19) rfl ?_);refine goesL_ (some 24) rfl rfl Try.func19 (by kernel_rfl) rfl #[.slice A1 l1.length c1,.int .i64 t101] rfl (by (try simp only [List.map_toArray,List.map_cons,List.map_nil]);first | done | rfl | (simp only [List.length_drop,List.length_take];rfl)) ?_;(with_reducible refine (laws_szLog.calls _ _ l1 t101 t102 _ ?side1 ?side2 A5.out).mono ?_);(case side1 => repeat (first | exact HR1.out | (with_reducible refine Kd.C_alloc ?_ _) | (with_reducible refine Kd.C_drewN ?_ _) | (with_reducible refine Kd.C_drew ?_)));(case side2 => exact HC1.out);rintro e w' ⟨rfl,⟨nd,rfl⟩⟩;refine ⟨_,rfl,?_⟩) | ((with_reducible refine gate_callee (f := 21) rfl ?_);refine goesL_ (some 29) rfl rfl Try.func21 (by kernel_rfl) rfl #[.slice A0 l0.length c0] rfl (by (try simp only [List.map_toArray,List.map_cons,List.map_nil]);first | done | rfl | (simp only [List.length_drop,List.length_take];rfl)) ?_;(with_reducible refine (laws_toLog.calls k _ _ l0 t103 _ ?side1 ?side2 A7.out).mono ?_);(case side1 => repeat (first | exact HR0.out | (with_reducible refine Kd.C_alloc ?_ _) | (with_reducible refine Kd.C_drewN ?_ _) | (with_reducible refine Kd.C_drew ?_)));(case side2 => exact HC0.out);rintro e w14 ⟨v104,rfl,ho0,hb⟩;refine ⟨_,rfl,?_⟩;have n0_ := Aside0.mk (Kd.R_lower ho0 (below_size (by repeat (first | (with_reducible first | exact HB.out | apply below_alloc | apply pw_below_drewN | apply below_drew1) | exact HB.out))));have n1_ := Aside0.mk (below_step (by repeat (first | (with_reducible first | exact HB.out | apply below_alloc | apply pw_below_drewN | apply below_drew1) | exact HB.out)) hb);clear HB;have HO105 := n0_;have HB := n1_;clear n0_ n1_;(try clear hb);(try clear hb2);(try clear hk);(try clear hi);(try clear ho0)) | ((with_reducible refine gate_callee (f := 21) rfl ?_);refine goesL_ (some 31) rfl rfl Try.func21 (by kernel_rfl) rfl #[.slice A1 l1.length c1] rfl (by (try simp only [List.map_toArray,List.map_cons,List.map_nil]);first | done | rfl | (simp only [List.length_drop,List.length_take];rfl)) ?_;(with_reducible refine (laws_toLog.calls k _ _ l1 t106 _ ?side1 ?side2 A8.out).mono ?_);(case side1 => repeat (first | exact (Kd.C_below HR1.out HB.out) | (with_reducible refine Kd.C_alloc ?_ _) | (with_reducible refine Kd.C_drewN ?_ _) | (with_reducible refine Kd.C_drew ?_)));(case side2 => exact HC1.out);rintro e w15 ⟨v107,rfl,ho0,hb⟩;refine ⟨_,rfl,?_⟩;have n0_ := Aside0.mk (Kd.R_elder' (by (with_reducible repeat (first | apply Kd.R_alloc | apply Kd.R_drewN | apply Kd.R_drew));exact HO105.out) (Kd.R_base ho0) hb);have n1_ := Aside0.mk (Kd.R_lower (Kd.R_new' ho0 (Kd.R_lt (by (with_reducible repeat (first | apply Kd.R_alloc | apply Kd.R_drewN | apply Kd.R_drew));exact HO105.out))) (below_size (by repeat (first | (with_reducible first | exact HB.out | apply below_alloc | apply pw_below_drewN | apply below_drew1) | exact HB.out))));have n2_ := Aside0.mk (below_step (by repeat (first | (with_reducible first | exact HB.out | apply below_alloc | apply pw_below_drewN | apply below_drew1) | exact HB.out)) hb);clear HO105;clear HB;have HO105 := n0_;have HO108 := n1_;have HB := n2_;clear n0_ n1_ n2_;(try clear hb);(try clear hb2);(try clear hk);(try clear hi);(try clear ho0);obtain ⟨Ao16,co16,eo16⟩ := Kd.R_slice HO105.out;subst eo16;obtain ⟨Ao17,co17,eo17⟩ := Kd.R_slice HO108.out;subst eo17) | ((with_reducible refine gate_callee (f := 62) rfl ?_);refine goesL_ (some 32) rfl rfl Try.func62 (by kernel_rfl) rfl #[.slice Ao16 t103.length co16,.slice Ao17 t106.length co17] rfl (by (try simp only [List.map_toArray,List.map_cons,List.map_nil]);first | done | rfl | (simp only [List.length_drop,List.length_take];rfl)) ?_;(with_reducible refine (spec_StoryOf.calls k _ _ t103 _ _ t106 t109 t110 _ ?side1 ?side2 ?side3 ?side4 A9.out).mono ?_);(case side1 => repeat (first | exact (Kd.R_reads' HO105.out).2.2 | (with_reducible refine Kd.C_alloc ?_ _) | (with_reducible refine Kd.C_drewN ?_ _) | (with_reducible refine Kd.C_drew ?_)));(case side2 => exact (Kd.R_reads' HO105.out).2.1);(case side3 => repeat (first | exact (Kd.R_reads' HO108.out).2.2 | (with_reducible refine Kd.C_alloc ?_ _) | (with_reducible refine Kd.C_drewN ?_ _) | (with_reducible refine Kd.C_drew ?_)));(case side4 => exact (Kd.R_reads' HO108.out).2.1);rintro e w18 ⟨v111,rfl,ho0,hb⟩;refine ⟨_,rfl,?_⟩;have n0_ := Aside0.mk (Kd.R_below (by (with_reducible repeat (first | apply Kd.R_alloc | apply Kd.R_drewN | apply Kd.R_drew));exact HO105.out) hb);have n1_ := Aside0.mk (Kd.R_below (by (with_reducible repeat (first | apply Kd.R_alloc | apply Kd.R_drewN | apply Kd.R_drew));exact HO108.out) hb);have n2_ := Aside0.mk (Kd.R_lower ho0 (below_size (by repeat (first | (with_reducible first | exact HB.out | apply below_alloc | apply pw_below_drewN | apply below_drew1) | exact HB.out))));have n3_ := Aside0.mk (below_step (by repeat (first | (with_reducible first | exact HB.out | apply below_alloc | apply pw_below_drewN | apply below_drew1) | exact HB.out)) hb);clear HO105;clear HO108;clear HB;have HO105 := n0_;have HO108 := n1_;have HO112 := n2_;have HB := n3_;clear n0_ n1_ n2_ n3_;(try clear hb);(try clear hb2);(try clear hk);(try clear hi);(try clear ho0)) | ((with_reducible refine gate_callee (f := 21) rfl ?_);refine goesL_ (some 36) rfl rfl Try.func21 (by kernel_rfl) rfl #[.slice A0 l0.length c0] rfl (by (try simp only [List.map_toArray,List.map_cons,List.map_nil]);first | done | rfl | (simp only [List.length_drop,List.length_take];rfl)) ?_;(with_reducible refine (laws_toLog.calls k _ _ l0 t113 _ ?side1 ?side2 A10.out).mono ?_);(case side1 => repeat (first | exact (Kd.C_below HR0.out HB.out) | (with_reducible refine Kd.C_alloc ?_ _) | (with_reducible refine Kd.C_drewN ?_ _) | (with_reducible refine Kd.C_drew ?_)));(case side2 => exact HC0.out);rintro e w19 ⟨v114,rfl,ho0,hb⟩;refine ⟨_,rfl,?_⟩;have n0_ := Aside0.mk (Kd.R_elder' (by (with_reducible repeat (first | apply Kd.R_alloc | apply Kd.R_drewN | apply Kd.R_drew));exact HO105.out) (Kd.R_base ho0) hb);have n1_ := Aside0.mk (Kd.R_elder' (by (with_reducible repeat (first | apply Kd.R_alloc | apply Kd.R_drewN | apply Kd.R_drew));exact HO108.out) (Kd.R_base ho0) hb);have n2_ := Aside0.mk (Kd.R_below (by (with_reducible repeat (first | apply Kd.R_alloc | apply Kd.R_drewN | apply Kd.R_drew));exact HO112.out) hb);have n3_ := Aside0.mk (Kd.R_lower (Kd.R_new' (Kd.R_new' ho0 (Kd.R_lt (by (with_reducible repeat (first | apply Kd.R_alloc | apply Kd.R_drewN | apply Kd.R_drew));exact HO105.out))) (Kd.R_lt (by (with_reducible repeat (first | apply Kd.R_alloc | apply Kd.R_drewN | apply Kd.R_drew));exact HO108.out))) (below_size (by repeat (first | (with_reducible first | exact HB.out | apply below_alloc | apply pw_below_drewN | apply below_drew1) | exact HB.out))));have n4_ := Aside0.mk (below_step (by repeat (first | (with_reducible first | exact HB.out | apply below_alloc | apply pw_below_drewN | apply below_drew1) | exact HB.out)) hb);clear HO105;clear HO108;clear HO112;clear HB;have HO105 := n0_;have HO108 := n1_;have HO112 := n2_;have HO115 := n3_;have HB := n4_;clear n0_ n1_ n2_ n3_ n4_;(try clear hb);(try clear hb2);(try clear hk);(try clear hi);(try clear ho0)) | ((with_reducible refine gate_callee (f := 21) rfl ?_);refine goesL_ (some 38) rfl rfl Try.func21 (by kernel_rfl) rfl #[.slice A1 l1.length c1] rfl (by (try simp only [List.map_toArray,List.map_cons,List.map_nil]);first | done | rfl | (simp only [List.length_drop,List.length_take];rfl)) ?_;(with_reducible refine (laws_toLog.calls k _ _ l1 t116 _ ?side1 ?side2 A11.out).mono ?_);(case side1 => repeat (first | exact (Kd.C_below HR1.out HB.out) | (with_reducible refine Kd.C_alloc ?_ _) | (with_reducible refine Kd.C_drewN ?_ _) | (with_reducible refine Kd.C_drew ?_)));(case side2 => exact HC1.out);rintro e w20 ⟨v117,rfl,ho0,hb⟩;refine ⟨_,rfl,?_⟩;have n0_ := Aside0.mk (Kd.R_elder' (by (with_reducible repeat (first | apply Kd.R_alloc | apply Kd.R_drewN | apply Kd.R_drew));exact HO105.out) (Kd.R_base ho0) hb);have n1_ := Aside0.mk (Kd.R_elder' (by (with_reducible repeat (first | apply Kd.R_alloc | apply Kd.R_drewN | apply Kd.R_drew));exact HO108.out) (Kd.R_base ho0) hb);have n2_ := Aside0.mk (Kd.R_below (by (with_reducible repeat (first | apply Kd.R_alloc | apply Kd.R_drewN | apply Kd.R_drew));exact HO112.out) hb);have n3_ := Aside0.mk (Kd.R_elder' (by (with_reducible repeat (first | apply Kd.R_alloc | apply Kd.R_drewN | apply Kd.R_drew));exact HO115.out) (Kd.R_base ho0) hb);have n4_ := Aside0.mk (Kd.R_lower (Kd.R_new' (Kd.R_new' (Kd.R_new' ho0 (Kd.R_lt (by (with_reducible repeat (first | apply Kd.R_alloc | apply Kd.R_drewN | apply Kd.R_drew));exact HO105.out))) (Kd.R_lt (by (with_reducible repeat (first | apply Kd.R_alloc | apply Kd.R_drewN | apply Kd.R_drew));exact HO108.out))) (Kd.R_lt (by (with_reducible repeat (first | apply Kd.R_alloc | apply Kd.R_drewN | apply Kd.R_drew));exact HO115.out))) (below_size (by repeat (first | (with_reducible first | exact HB.out | apply below_alloc | apply pw_below_drewN | apply below_drew1) | exact HB.out))));have n5_ := Aside0.mk (below_step (by repeat (first | (with_reducible first | exact HB.out | apply below_alloc | apply pw_below_drewN | apply below_drew1) | exact HB.out)) hb);clear HO105;clear HO108;clear HO112;clear HO115;clear HB;have HO105 := n0_;have HO108 := n1_;have HO112 := n2_;have HO115 := n3_;have HO118 := n4_;have HB := n5_;clear n0_ n1_ n2_ n3_ n4_ n5_;(try clear hb);(try clear hb2);(try clear hk);(try clear hi);(try clear ho0);obtain ⟨Ao21,co21,eo21⟩ := Kd.R_slice HO115.out;subst eo21;obtain ⟨Ao22,co22,eo22⟩ := Kd.R_slice HO118.out;subst eo22) | ((with_reducible refine gate_callee (f := 63) rfl ?_);refine goesL_ (some 42) rfl rfl Try.func63 (by kernel_rfl) rfl #[.slice Ao21 t113.length co21,.slice Ao22 t116.length co22] rfl (by (try simp only [List.map_toArray,List.map_cons,List.map_nil]);first | done | rfl | (simp only [List.length_drop,List.length_take];rfl)) ?_;(with_reducible refine (impl_StoryOf.calls k _ _ t113 _ _ t116 t119 t120 _ ?side1 ?side2 ?side3 ?side4 A12.out).mono ?_);(case side1 => repeat (first | exact (Kd.R_reads' HO115.out).2.2 | (with_reducible refine Kd.C_alloc ?_ _) | (with_reducible refine Kd.C_drewN ?_ _) | (with_reducible refine Kd.C_drew ?_)));(case side2 => exact (Kd.R_reads' HO115.out).2.1);(case side3 => repeat (first | exact (Kd.R_reads' HO118.out).2.2 | (with_reducible refine Kd.C_alloc ?_ _) | (with_reducible refine Kd.C_drewN ?_ _) | (with_reducible refine Kd.C_drew ?_)));(case side4 => exact (Kd.R_reads' HO118.out).2.1);rintro e w23 ⟨v121,rfl,ho0,hb⟩;refine ⟨_,rfl,?_⟩;have n0_ := Aside0.mk (Kd.R_below (by (with_reducible repeat (first | apply Kd.R_alloc | apply Kd.R_drewN | apply Kd.R_drew));exact HO105.out) hb);have n1_ := Aside0.mk (Kd.R_below (by (with_reducible repeat (first | apply Kd.R_alloc | apply Kd.R_drewN | apply Kd.R_drew));exact HO108.out) hb);have n2_ := Aside0.mk (Kd.R_elder' (by (with_reducible repeat (first | apply Kd.R_alloc | apply Kd.R_drewN | apply Kd.R_drew));exact HO112.out) (Kd.R_base ho0) hb);have n3_ := Aside0.mk (Kd.R_below (by (with_reducible repeat (first | apply Kd.R_alloc | apply Kd.R_drewN | apply Kd.R_drew));exact HO115.out) hb);have n4_ := Aside0.mk (Kd.R_below (by (with_reducible repeat (first | apply Kd.R_alloc | apply Kd.R_drewN | apply Kd.R_drew));exact HO118.out) hb);have n5_ := Aside0.mk (Kd.R_lower (Kd.R_new' ho0 (Kd.R_lt (by (with_reducible repeat (first | apply Kd.R_alloc | apply Kd.R_drewN | apply Kd.R_drew));exact HO112.out))) (below_size (by repeat (first | (with_reducible first | exact HB.out | apply below_alloc | apply pw_below_drewN | apply below_drew1) | exact HB.out))));have n6_ := Aside0.mk (below_step (by repeat (first | (with_reducible first | exact HB.out | apply below_alloc | apply pw_below_drewN | apply below_drew1) | exact HB.out)) hb);clear HO105;clear HO108;clear HO112;clear HO115;clear HO118;clear HB;have HO105 := n0_;have HO108 := n1_;have HO112 := n2_;have HO115 := n3_;have HO118 := n4_;have HO122 := n5_;have HB := n6_;clear n0_ n1_ n2_ n3_ n4_ n5_ n6_;(try clear hb);(try clear hb2);(try clear hk);(try clear hi);(try clear ho0)))
   (try simp only [Act.put,List.setIfInBounds_toArray,List.set_cons_zero,List.set_cons_succ])
   go_cut [53] (fun v53 wc => ∃ (kq : Nat) (x53_12 : Bool),v53 = .bool x53_12 ∧ Aside0 (laws_FnExactStoryOf.j0 kq l0 l1 t109 t110 t113 t116 t119 t120 x53_12 = some r) ∧ Aside0 (kq ≤ k) ∧ Aside0 (Kd.R k100 100 wc w.heap.size (fun k_ => some k_ ≠ (v121 : Value).ownBlock) v111 t109) ∧ Aside0 (Kd.R k73 73 wc w.heap.size (fun k_ => some k_ ≠ ((.slice Ao22 t116.length co22) : Value).ownBlock) (.slice Ao21 t113.length co21) t113) ∧ Aside0 (Kd.R k73 73 wc w.heap.size (fun k_ => some k_ ≠ ((.slice Ao21 t113.length co21) : Value).ownBlock) (.slice Ao22 t116.length co22) t116) ∧ Aside0 (Kd.R k100 100 wc w.heap.size (fun k_ => some k_ ≠ (v111 : Value).ownBlock) v121 t119) ∧ Aside0 (Below w.heap.size w wc))
   case first =>
    have H := HC13.out;clear HC13;replace H := Option.bind_eq_some_iff.mp H;obtain ⟨t123,A240,H⟩ := H;replace H : (if t123 = true then (laws_FnExactStoryOf.j0 k l0 l1 t109 t110 t113 t116 t119 t120 (t120 != t110)) else (laws_FnExactStoryOf.j0 k l0 l1 t109 t110 t113 t116 t119 t120 true)) = some r := H;have A24 := Aside0.mk A240;clear A240
    by_cases c25 : t123 = true
    ·subst c25
     have H1 : (laws_FnExactStoryOf.j0 k l0 l1 t109 t110 t113 t116 t119 t120 (t120 != t110)) = some r := by rw [if_pos rfl] at H;exact H
     clear H;have H := H1;clear H1;have H' := Aside0.mk H;clear H;obtain ⟨Ao26,co26,eo26⟩ := Kd.R_slice HO122.out;subst eo26;obtain ⟨Ao27,co27,eo27⟩ := Kd.R_slice HO112.out;subst eo27
     go_wp2_with (first | ((with_reducible refine gate_callee (f := 50) rfl ?_);refine goesL_ (some 47) rfl rfl Try.func50 (by kernel_rfl) rfl #[.slice Ao26 t119.length co26,.slice Ao27 t109.length co27] rfl (by (try simp only [List.map_toArray,List.map_cons,List.map_nil]);first | done | rfl | (simp only [List.length_drop,List.length_take];rfl)) ?_;(with_reducible refine (laws_eqStepS.calls k _ _ t119 _ _ t109 true _ ?side1 ?side2 ?side3 ?side4 A24.out).mono ?_);(case side1 => repeat (first | exact (Kd.R_reads' HO122.out).2.2 | (with_reducible refine Kd.C_alloc ?_ _) | (with_reducible refine Kd.C_drewN ?_ _) | (with_reducible refine Kd.C_drew ?_)));(case side2 => exact (Kd.R_reads' HO122.out).2.1);(case side3 => repeat (first | exact (Kd.R_reads' HO112.out).2.2 | (with_reducible refine Kd.C_alloc ?_ _) | (with_reducible refine Kd.C_drewN ?_ _) | (with_reducible refine Kd.C_drew ?_)));(case side4 => exact (Kd.R_reads' HO112.out).2.1);rintro e w28 ⟨rfl,hb⟩;refine ⟨_,rfl,?_⟩;have n0_ := Aside0.mk (Kd.R_below (by (with_reducible repeat (first | apply Kd.R_alloc | apply Kd.R_drewN | apply Kd.R_drew));exact HO105.out) hb);have n1_ := Aside0.mk (Kd.R_below (by (with_reducible repeat (first | apply Kd.R_alloc | apply Kd.R_drewN | apply Kd.R_drew));exact HO108.out) hb);have n2_ := Aside0.mk (Kd.R_below (by (with_reducible repeat (first | apply Kd.R_alloc | apply Kd.R_drewN | apply Kd.R_drew));exact HO112.out) hb);have n3_ := Aside0.mk (Kd.R_below (by (with_reducible repeat (first | apply Kd.R_alloc | apply Kd.R_drewN | apply Kd.R_drew));exact HO115.out) hb);have n4_ := Aside0.mk (Kd.R_below (by (with_reducible repeat (first | apply Kd.R_alloc | apply Kd.R_drewN | apply Kd.R_drew));exact HO118.out) hb);have n5_ := Aside0.mk (Kd.R_below (by (with_reducible repeat (first | apply Kd.R_alloc | apply Kd.R_drewN | apply Kd.R_drew));exact HO122.out) hb);have n6_ := Aside0.mk (below_step (by repeat (first | (with_reducible first | exact HB.out | apply below_alloc | apply pw_below_drewN | apply below_drew1) | exact HB.out)) hb);clear HO105;clear HO108;clear HO112;clear HO115;clear HO118;clear HO122;clear HB;have HO105 := n0_;have HO108 := n1_;have HO112 := n2_;have HO115 := n3_;have HO118 := n4_;have HO122 := n5_;have HB := n6_;clear n0_ n1_ n2_ n3_ n4_ n5_ n6_;(try clear hb);(try clear hb2);(try clear hk);(try clear hi)))
     go_meet
     case rel => exact ⟨_,((t120 != t110)),(by first | rfl | (simp only [IntKind.wrap_i64,wrap64];done) | (simp;done) | (simp [*];done)),H',⟨by first | omega | exact Nat.le_refl _⟩,⟨by (with_reducible repeat (first | apply Kd.R_alloc | apply Kd.R_drewN | apply Kd.R_drew));exact Kd.R_mono HO112.out (fun _ hk => hk.2)⟩,⟨by (with_reducible repeat (first | apply Kd.R_alloc | apply Kd.R_drewN | apply Kd.R_drew));exact Kd.R_mono HO115.out (fun _ hk => hk.2)⟩,⟨by (with_reducible repeat (first | apply Kd.R_alloc | apply Kd.R_drewN | apply Kd.R_drew));exact Kd.R_mono HO118.out (fun _ hk => hk.2)⟩,⟨by (with_reducible repeat (first | apply Kd.R_alloc | apply Kd.R_drewN | apply Kd.R_drew));exact Kd.R_mono HO122.out (fun _ hk => hk.2)⟩,⟨by repeat (first | (with_reducible first | exact HB.out | apply below_alloc | apply pw_below_drewN | apply below_drew1) | exact HB.out)⟩⟩
    ·replace c25 := Bool.eq_false_iff.mpr c25;subst c25
     have H1 : (laws_FnExactStoryOf.j0 k l0 l1 t109 t110 t113 t116 t119 t120 true) = some r := by rw [if_neg (show ¬ (false = true) by decide)] at H;exact H
     clear H;have H := H1;clear H1;have H' := Aside0.mk H;clear H;obtain ⟨Ao29,co29,eo29⟩ := Kd.R_slice HO122.out;subst eo29;obtain ⟨Ao30,co30,eo30⟩ := Kd.R_slice HO112.out;subst eo30
     go_wp2_with (first | ((with_reducible refine gate_callee (f := 50) rfl ?_);refine goesL_ (some 47) rfl rfl Try.func50 (by kernel_rfl) rfl #[.slice Ao29 t119.length co29,.slice Ao30 t109.length co30] rfl (by (try simp only [List.map_toArray,List.map_cons,List.map_nil]);first | done | rfl | (simp only [List.length_drop,List.length_take];rfl)) ?_;(with_reducible refine (laws_eqStepS.calls k _ _ t119 _ _ t109 false _ ?side1 ?side2 ?side3 ?side4 A24.out).mono ?_);(case side1 => repeat (first | exact (Kd.R_reads' HO122.out).2.2 | (with_reducible refine Kd.C_alloc ?_ _) | (with_reducible refine Kd.C_drewN ?_ _) | (with_reducible refine Kd.C_drew ?_)));(case side2 => exact (Kd.R_reads' HO122.out).2.1);(case side3 => repeat (first | exact (Kd.R_reads' HO112.out).2.2 | (with_reducible refine Kd.C_alloc ?_ _) | (with_reducible refine Kd.C_drewN ?_ _) | (with_reducible refine Kd.C_drew ?_)));(case side4 => exact (Kd.R_reads' HO112.out).2.1);rintro e w31 ⟨rfl,hb⟩;refine ⟨_,rfl,?_⟩;have n0_ := Aside0.mk (Kd.R_below (by (with_reducible repeat (first | apply Kd.R_alloc | apply Kd.R_drewN | apply Kd.R_drew));exact HO105.out) hb);have n1_ := Aside0.mk (Kd.R_below (by (with_reducible repeat (first | apply Kd.R_alloc | apply Kd.R_drewN | apply Kd.R_drew));exact HO108.out) hb);have n2_ := Aside0.mk (Kd.R_below (by (with_reducible repeat (first | apply Kd.R_alloc | apply Kd.R_drewN | apply Kd.R_drew));exact HO112.out) hb);have n3_ := Aside0.mk (Kd.R_below (by (with_reducible repeat (first | apply Kd.R_alloc | apply Kd.R_drewN | apply Kd.R_drew));exact HO115.out) hb);have n4_ := Aside0.mk (Kd.R_below (by (with_reducible repeat (first | apply Kd.R_alloc | apply Kd.R_drewN | apply Kd.R_drew));exact HO118.out) hb);have n5_ := Aside0.mk (Kd.R_below (by (with_reducible repeat (first | apply Kd.R_alloc | apply Kd.R_drewN | apply Kd.R_drew));exact HO122.out) hb);have n6_ := Aside0.mk (below_step (by repeat (first | (with_reducible first | exact HB.out | apply below_alloc | apply pw_below_drewN | apply below_drew1) | exact HB.out)) hb);clear HO105;clear HO108;clear HO112;clear HO115;clear HO118;clear HO122;clear HB;have HO105 := n0_;have HO108 := n1_;have HO112 := n2_;have HO115 := n3_;have HO118 := n4_;have HO122 := n5_;have HB := n6_;clear n0_ n1_ n2_ n3_ n4_ n5_ n6_;(try clear hb);(try clear hb2);(try clear hk);(try clear hi)))
     go_meet
     case rel => exact ⟨_,(true),(by first | rfl | (simp only [IntKind.wrap_i64,wrap64];done) | (simp;done) | (simp [*];done)),H',⟨by first | omega | exact Nat.le_refl _⟩,⟨by (with_reducible repeat (first | apply Kd.R_alloc | apply Kd.R_drewN | apply Kd.R_drew));exact Kd.R_mono HO112.out (fun _ hk => hk.2)⟩,⟨by (with_reducible repeat (first | apply Kd.R_alloc | apply Kd.R_drewN | apply Kd.R_drew));exact Kd.R_mono HO115.out (fun _ hk => hk.2)⟩,⟨by (with_reducible repeat (first | apply Kd.R_alloc | apply Kd.R_drewN | apply Kd.R_drew));exact Kd.R_mono HO118.out (fun _ hk => hk.2)⟩,⟨by (with_reducible repeat (first | apply Kd.R_alloc | apply Kd.R_drewN | apply Kd.R_drew));exact Kd.R_mono HO122.out (fun _ hk => hk.2)⟩,⟨by repeat (first | (with_reducible first | exact HB.out | apply below_alloc | apply pw_below_drewN | apply below_drew1) | exact HB.out)⟩⟩
   case rest =>
    clear HC13;(try clear c1);(try clear c2);(try clear p2);(try clear c4);(try clear c4b0);(try clear c5);(try clear c6);(try clear c6b0);(try clear c15);(try clear c19);(try clear c21);(try clear c25);obtain ⟨kq,x53_12,rfl,HA,HJ12,HO_6,HO_8,HO_9,HO_10,HB⟩ := hcut
    cases kq with
    | zero => exact absurd HA.out (by simp [laws_FnExactStoryOf.j0])
    | succ kj12 =>
     have H := HA.out;clear HA;simp only [laws_FnExactStoryOf.j0] at H
     by_cases c32 : x53_12 = true
     ·subst c32
      have H1 : (some false) = some r := by rw [if_pos rfl] at H;exact H
      clear H;have H := H1;clear H1;obtain rfl := Option.some.inj H
      go_wp2
      go_ret
      exact ⟨by first | rfl | (simp [errW_none,errW_some,IntKind.wrap_i64,wrap64];done) | (simp [errW_none,errW_some] <;> rfl) | (simp [*,errW_none,errW_some] <;> rfl),by repeat (first | (with_reducible first | exact HB.out | apply below_alloc | apply pw_below_drewN | apply below_drew1) | exact HB.out)⟩
     ·replace c32 := Bool.eq_false_iff.mpr c32;subst c32
      have H1 : ((laws_toLog.f kj12 l0).bind fun t124 => ((laws_eqLog.f kj12 t113 t124).bind fun t127 => (if t127 = true then ((laws_toLog.f kj12 l1).bind fun t128 => ((laws_eqLog.f kj12 t116 t128).bind fun t131 => (if t131 = true then ((laws_markLog.f kj12 t113 1).bind fun bt132 => ((laws_markLog.f kj12 t116 bt132.1).bind fun bt134 => (if bt134.1 < 0 then (laws_FnExactStoryOf.j1 kj12 l0 l1 t109 t110 t119 true) else ((laws_eqStepS.f kj12 t119 t109).bind fun t136 => (if t136 = true then (laws_FnExactStoryOf.j1 kj12 l0 l1 t109 t110 t119 (t120 != t110)) else (laws_FnExactStoryOf.j1 kj12 l0 l1 t109 t110 t119 true)))))) else (some false)))) else (some false)))) = some r := by rw [if_neg (show ¬ (false = true) by decide)] at H;exact H
      clear H;have H := H1;clear H1;replace H := Option.bind_eq_some_iff.mp H;obtain ⟨t124,A330,H⟩ := H;replace H : ((laws_eqLog.f kj12 t113 t124).bind fun t127 => (if t127 = true then ((laws_toLog.f kj12 l1).bind fun t128 => ((laws_eqLog.f kj12 t116 t128).bind fun t131 => (if t131 = true then ((laws_markLog.f kj12 t113 1).bind fun bt132 => ((laws_markLog.f kj12 t116 bt132.1).bind fun bt134 => (if bt134.1 < 0 then (laws_FnExactStoryOf.j1 kj12 l0 l1 t109 t110 t119 true) else ((laws_eqStepS.f kj12 t119 t109).bind fun t136 => (if t136 = true then (laws_FnExactStoryOf.j1 kj12 l0 l1 t109 t110 t119 (t120 != t110)) else (laws_FnExactStoryOf.j1 kj12 l0 l1 t109 t110 t119 true)))))) else (some false)))) else (some false))) = some r := H;have A33 := Aside0.mk A330;clear A330;replace H := Option.bind_eq_some_iff.mp H;obtain ⟨t127,A340,H⟩ := H;replace H : (if t127 = true then ((laws_toLog.f kj12 l1).bind fun t128 => ((laws_eqLog.f kj12 t116 t128).bind fun t131 => (if t131 = true then ((laws_markLog.f kj12 t113 1).bind fun bt132 => ((laws_markLog.f kj12 t116 bt132.1).bind fun bt134 => (if bt134.1 < 0 then (laws_FnExactStoryOf.j1 kj12 l0 l1 t109 t110 t119 true) else ((laws_eqStepS.f kj12 t119 t109).bind fun t136 => (if t136 = true then (laws_FnExactStoryOf.j1 kj12 l0 l1 t109 t110 t119 (t120 != t110)) else (laws_FnExactStoryOf.j1 kj12 l0 l1 t109 t110 t119 true)))))) else (some false)))) else (some false)) = some r := H;have A34 := Aside0.mk A340;clear A340
      by_cases c35 : t127 = true
      ·subst c35
       have H1 : ((laws_toLog.f kj12 l1).bind fun t128 => ((laws_eqLog.f kj12 t116 t128).bind fun t131 => (if t131 = true then ((laws_markLog.f kj12 t113 1).bind fun bt132 => ((laws_markLog.f kj12 t116 bt132.1).bind fun bt134 => (if bt134.1 < 0 then (laws_FnExactStoryOf.j1 kj12 l0 l1 t109 t110 t119 true) else ((laws_eqStepS.f kj12 t119 t109).bind fun t136 => (if t136 = true then (laws_FnExactStoryOf.j1 kj12 l0 l1 t109 t110 t119 (t120 != t110)) else (laws_FnExactStoryOf.j1 kj12 l0 l1 t109 t110 t119 true)))))) else (some false)))) = some r := by rw [if_pos rfl] at H;exact H
       clear H;have H := H1;clear H1;replace H := Option.bind_eq_some_iff.mp H;obtain ⟨t128,A360,H⟩ := H;replace H : ((laws_eqLog.f kj12 t116 t128).bind fun t131 => (if t131 = true then ((laws_markLog.f kj12 t113 1).bind fun bt132 => ((laws_markLog.f kj12 t116 bt132.1).bind fun bt134 => (if bt134.1 < 0 then (laws_FnExactStoryOf.j1 kj12 l0 l1 t109 t110 t119 true) else ((laws_eqStepS.f kj12 t119 t109).bind fun t136 => (if t136 = true then (laws_FnExactStoryOf.j1 kj12 l0 l1 t109 t110 t119 (t120 != t110)) else (laws_FnExactStoryOf.j1 kj12 l0 l1 t109 t110 t119 true)))))) else (some false))) = some r := H;have A36 := Aside0.mk A360;clear A360;replace H := Option.bind_eq_some_iff.mp H;obtain ⟨t131,A370,H⟩ := H;replace H : (if t131 = true then ((laws_markLog.f kj12 t113 1).bind fun bt132 => ((laws_markLog.f kj12 t116 bt132.1).bind fun bt134 => (if bt134.1 < 0 then (laws_FnExactStoryOf.j1 kj12 l0 l1 t109 t110 t119 true) else ((laws_eqStepS.f kj12 t119 t109).bind fun t136 => (if t136 = true then (laws_FnExactStoryOf.j1 kj12 l0 l1 t109 t110 t119 (t120 != t110)) else (laws_FnExactStoryOf.j1 kj12 l0 l1 t109 t110 t119 true)))))) else (some false)) = some r := H;have A37 := Aside0.mk A370;clear A370
       by_cases c38 : t131 = true
       ·subst c38
        have H1 : ((laws_markLog.f kj12 t113 1).bind fun bt132 => ((laws_markLog.f kj12 t116 bt132.1).bind fun bt134 => (if bt134.1 < 0 then (laws_FnExactStoryOf.j1 kj12 l0 l1 t109 t110 t119 true) else ((laws_eqStepS.f kj12 t119 t109).bind fun t136 => (if t136 = true then (laws_FnExactStoryOf.j1 kj12 l0 l1 t109 t110 t119 (t120 != t110)) else (laws_FnExactStoryOf.j1 kj12 l0 l1 t109 t110 t119 true)))))) = some r := by rw [if_pos rfl] at H;exact H
        clear H;have H := H1;clear H1;replace H := Option.bind_eq_some_iff.mp H;obtain ⟨⟨t132,t133⟩,A390,H⟩ := H;replace H : ((laws_markLog.f kj12 t116 t132).bind fun bt134 => (if bt134.1 < 0 then (laws_FnExactStoryOf.j1 kj12 l0 l1 t109 t110 t119 true) else ((laws_eqStepS.f kj12 t119 t109).bind fun t136 => (if t136 = true then (laws_FnExactStoryOf.j1 kj12 l0 l1 t109 t110 t119 (t120 != t110)) else (laws_FnExactStoryOf.j1 kj12 l0 l1 t109 t110 t119 true))))) = some r := H;have A39 := Aside0.mk A390;clear A390;replace H := Option.bind_eq_some_iff.mp H;obtain ⟨⟨t134,t135⟩,A400,H⟩ := H;replace H : (if t134 < 0 then (laws_FnExactStoryOf.j1 kj12 l0 l1 t109 t110 t119 true) else ((laws_eqStepS.f kj12 t119 t109).bind fun t136 => (if t136 = true then (laws_FnExactStoryOf.j1 kj12 l0 l1 t109 t110 t119 (t120 != t110)) else (laws_FnExactStoryOf.j1 kj12 l0 l1 t109 t110 t119 true)))) = some r := H;have A40 := Aside0.mk A400;clear A400;have HC41 := Aside0.mk H;clear H
        go_upto_region 21 with (first | ((with_reducible refine gate_callee (f := 21) rfl ?_);refine goesL_ (some 56) rfl rfl Try.func21 (by kernel_rfl) rfl #[.slice A0 l0.length c0] rfl (by (try simp only [List.map_toArray,List.map_cons,List.map_nil]);first | done | rfl | (simp only [List.length_drop,List.length_take];rfl)) ?_;(with_reducible refine (laws_toLog.calls kj12 _ _ l0 t124 _ ?side1 ?side2 A33.out).mono ?_);(case side1 => repeat (first | exact (Kd.C_below HR0.out HB.out) | (with_reducible refine Kd.C_alloc ?_ _) | (with_reducible refine Kd.C_drewN ?_ _) | (with_reducible refine Kd.C_drew ?_)));(case side2 => exact HC0.out);rintro e w42 ⟨v125,rfl,ho0,hb⟩;refine ⟨_,rfl,?_⟩;have n0_ := Aside0.mk (Kd.R_below (by (with_reducible repeat (first | apply Kd.R_alloc | apply Kd.R_drewN | apply Kd.R_drew));exact HO_6.out) hb);have n1_ := Aside0.mk (Kd.R_elder' (by (with_reducible repeat (first | apply Kd.R_alloc | apply Kd.R_drewN | apply Kd.R_drew));exact HO_8.out) (Kd.R_base ho0) hb);have n2_ := Aside0.mk (Kd.R_elder' (by (with_reducible repeat (first | apply Kd.R_alloc | apply Kd.R_drewN | apply Kd.R_drew));exact HO_9.out) (Kd.R_base ho0) hb);have n3_ := Aside0.mk (Kd.R_below (by (with_reducible repeat (first | apply Kd.R_alloc | apply Kd.R_drewN | apply Kd.R_drew));exact HO_10.out) hb);have n4_ := Aside0.mk (Kd.R_lower (Kd.R_new' (Kd.R_new' ho0 (Kd.R_lt (by (with_reducible repeat (first | apply Kd.R_alloc | apply Kd.R_drewN | apply Kd.R_drew));exact HO_8.out))) (Kd.R_lt (by (with_reducible repeat (first | apply Kd.R_alloc | apply Kd.R_drewN | apply Kd.R_drew));exact HO_9.out))) (below_size (by repeat (first | (with_reducible first | exact HB.out | apply below_alloc | apply pw_below_drewN | apply below_drew1) | exact HB.out))));have n5_ := Aside0.mk (below_step (by repeat (first | (with_reducible first | exact HB.out | apply below_alloc | apply pw_below_drewN | apply below_drew1) | exact HB.out)) hb);clear HO_6;clear HO_8;clear HO_9;clear HO_10;clear HB;have HO_6 := n0_;have HO_8 := n1_;have HO_9 := n2_;have HO_10 := n3_;have HO126 := n4_;have HB := n5_;clear n0_ n1_ n2_ n3_ n4_ n5_;(try clear hb);(try clear hb2);(try clear hk);(try clear hi);(try clear ho0);obtain ⟨Ao43,co43,eo43⟩ := Kd.R_slice HO126.out;subst eo43) | ((with_reducible refine gate_callee (f := 23) rfl ?_);refine goesL_ (some 57) rfl rfl Try.func23 (by kernel_rfl) rfl #[.slice Ao21 t113.length co21,.slice Ao43 t124.length co43] rfl (by (try simp only [List.map_toArray,List.map_cons,List.map_nil]);first | done | rfl | (simp only [List.length_drop,List.length_take];rfl)) ?_;(with_reducible refine (laws_eqLog.calls kj12 _ _ t113 _ _ t124 true _ ?side1 ?side2 ?side3 ?side4 A34.out).mono ?_);(case side1 => repeat (first | exact (Kd.R_reads' HO_8.out).2.2 | (with_reducible refine Kd.C_alloc ?_ _) | (with_reducible refine Kd.C_drewN ?_ _) | (with_reducible refine Kd.C_drew ?_)));(case side2 => exact (Kd.R_reads' HO_8.out).2.1);(case side3 => repeat (first | exact (Kd.R_reads' HO126.out).2.2 | (with_reducible refine Kd.C_alloc ?_ _) | (with_reducible refine Kd.C_drewN ?_ _) | (with_reducible refine Kd.C_drew ?_)));(case side4 => exact (Kd.R_reads' HO126.out).2.1);rintro e w44 ⟨rfl,hb⟩;refine ⟨_,rfl,?_⟩;have n0_ := Aside0.mk (Kd.R_below (by (with_reducible repeat (first | apply Kd.R_alloc | apply Kd.R_drewN | apply Kd.R_drew));exact HO_6.out) hb);have n1_ := Aside0.mk (Kd.R_below (by (with_reducible repeat (first | apply Kd.R_alloc | apply Kd.R_drewN | apply Kd.R_drew));exact HO_8.out) hb);have n2_ := Aside0.mk (Kd.R_below (by (with_reducible repeat (first | apply Kd.R_alloc | apply Kd.R_drewN | apply Kd.R_drew));exact HO_9.out) hb);have n3_ := Aside0.mk (Kd.R_below (by (with_reducible repeat (first | apply Kd.R_alloc | apply Kd.R_drewN | apply Kd.R_drew));exact HO_10.out) hb);have n4_ := Aside0.mk (Kd.R_below (by (with_reducible repeat (first | apply Kd.R_alloc | apply Kd.R_drewN | apply Kd.R_drew));exact HO126.out) hb);have n5_ := Aside0.mk (below_step (by repeat (first | (with_reducible first | exact HB.out | apply below_alloc | apply pw_below_drewN | apply below_drew1) | exact HB.out)) hb);clear HO_6;clear HO_8;clear HO_9;clear HO_10;clear HO126;clear HB;have HO_6 := n0_;have HO_8 := n1_;have HO_9 := n2_;have HO_10 := n3_;have HO126 := n4_;have HB := n5_;clear n0_ n1_ n2_ n3_ n4_ n5_;(try clear hb);(try clear hb2);(try clear hk);(try clear hi)) | ((with_reducible refine gate_callee (f := 21) rfl ?_);refine goesL_ (some 61) rfl rfl Try.func21 (by kernel_rfl) rfl #[.slice A1 l1.length c1] rfl (by (try simp only [List.map_toArray,List.map_cons,List.map_nil]);first | done | rfl | (simp only [List.length_drop,List.length_take];rfl)) ?_;(with_reducible refine (laws_toLog.calls kj12 _ _ l1 t128 _ ?side1 ?side2 A36.out).mono ?_);(case side1 => repeat (first | exact (Kd.C_below HR1.out HB.out) | (with_reducible refine Kd.C_alloc ?_ _) | (with_reducible refine Kd.C_drewN ?_ _) | (with_reducible refine Kd.C_drew ?_)));(case side2 => exact HC1.out);rintro e w45 ⟨v129,rfl,ho0,hb⟩;refine ⟨_,rfl,?_⟩;have n0_ := Aside0.mk (Kd.R_below (by (with_reducible repeat (first | apply Kd.R_alloc | apply Kd.R_drewN | apply Kd.R_drew));exact HO_6.out) hb);have n1_ := Aside0.mk (Kd.R_elder' (by (with_reducible repeat (first | apply Kd.R_alloc | apply Kd.R_drewN | apply Kd.R_drew));exact HO_8.out) (Kd.R_base ho0) hb);have n2_ := Aside0.mk (Kd.R_elder' (by (with_reducible repeat (first | apply Kd.R_alloc | apply Kd.R_drewN | apply Kd.R_drew));exact HO_9.out) (Kd.R_base ho0) hb);have n3_ := Aside0.mk (Kd.R_below (by (with_reducible repeat (first | apply Kd.R_alloc | apply Kd.R_drewN | apply Kd.R_drew));exact HO_10.out) hb);have n4_ := Aside0.mk (Kd.R_elder' (by (with_reducible repeat (first | apply Kd.R_alloc | apply Kd.R_drewN | apply Kd.R_drew));exact HO126.out) (Kd.R_base ho0) hb);have n5_ := Aside0.mk (Kd.R_lower (Kd.R_new' (Kd.R_new' (Kd.R_new' ho0 (Kd.R_lt (by (with_reducible repeat (first | apply Kd.R_alloc | apply Kd.R_drewN | apply Kd.R_drew));exact HO_8.out))) (Kd.R_lt (by (with_reducible repeat (first | apply Kd.R_alloc | apply Kd.R_drewN | apply Kd.R_drew));exact HO_9.out))) (Kd.R_lt (by (with_reducible repeat (first | apply Kd.R_alloc | apply Kd.R_drewN | apply Kd.R_drew));exact HO126.out))) (below_size (by repeat (first | (with_reducible first | exact HB.out | apply below_alloc | apply pw_below_drewN | apply below_drew1) | exact HB.out))));have n6_ := Aside0.mk (below_step (by repeat (first | (with_reducible first | exact HB.out | apply below_alloc | apply pw_below_drewN | apply below_drew1) | exact HB.out)) hb);clear HO_6;clear HO_8;clear HO_9;clear HO_10;clear HO126;clear HB;have HO_6 := n0_;have HO_8 := n1_;have HO_9 := n2_;have HO_10 := n3_;have HO126 := n4_;have HO130 := n5_;have HB := n6_;clear n0_ n1_ n2_ n3_ n4_ n5_ n6_;(try clear hb);(try clear hb2);(try clear hk);(try clear hi);(try clear ho0);obtain ⟨Ao46,co46,eo46⟩ := Kd.R_slice HO130.out;subst eo46) | ((with_reducible refine gate_callee (f := 23) rfl ?_);refine goesL_ (some 62) rfl rfl Try.func23 (by kernel_rfl) rfl #[.slice Ao22 t116.length co22,.slice Ao46 t128.length co46] rfl (by (try simp only [List.map_toArray,List.map_cons,List.map_nil]);first | done | rfl | (simp only [List.length_drop,List.length_take];rfl)) ?_;(with_reducible refine (laws_eqLog.calls kj12 _ _ t116 _ _ t128 true _ ?side1 ?side2 ?side3 ?side4 A37.out).mono ?_);(case side1 => repeat (first | exact (Kd.R_reads' HO_9.out).2.2 | (with_reducible refine Kd.C_alloc ?_ _) | (with_reducible refine Kd.C_drewN ?_ _) | (with_reducible refine Kd.C_drew ?_)));(case side2 => exact (Kd.R_reads' HO_9.out).2.1);(case side3 => repeat (first | exact (Kd.R_reads' HO130.out).2.2 | (with_reducible refine Kd.C_alloc ?_ _) | (with_reducible refine Kd.C_drewN ?_ _) | (with_reducible refine Kd.C_drew ?_)));(case side4 => exact (Kd.R_reads' HO130.out).2.1);rintro e w47 ⟨rfl,hb⟩;refine ⟨_,rfl,?_⟩;have n0_ := Aside0.mk (Kd.R_below (by (with_reducible repeat (first | apply Kd.R_alloc | apply Kd.R_drewN | apply Kd.R_drew));exact HO_6.out) hb);have n1_ := Aside0.mk (Kd.R_below (by (with_reducible repeat (first | apply Kd.R_alloc | apply Kd.R_drewN | apply Kd.R_drew));exact HO_8.out) hb);have n2_ := Aside0.mk (Kd.R_below (by (with_reducible repeat (first | apply Kd.R_alloc | apply Kd.R_drewN | apply Kd.R_drew));exact HO_9.out) hb);have n3_ := Aside0.mk (Kd.R_below (by (with_reducible repeat (first | apply Kd.R_alloc | apply Kd.R_drewN | apply Kd.R_drew));exact HO_10.out) hb);have n4_ := Aside0.mk (Kd.R_below (by (with_reducible repeat (first | apply Kd.R_alloc | apply Kd.R_drewN | apply Kd.R_drew));exact HO126.out) hb);have n5_ := Aside0.mk (Kd.R_below (by (with_reducible repeat (first | apply Kd.R_alloc | apply Kd.R_drewN | apply Kd.R_drew));exact HO130.out) hb);have n6_ := Aside0.mk (below_step (by repeat (first | (with_reducible first | exact HB.out | apply below_alloc | apply pw_below_drewN | apply below_drew1) | exact HB.out)) hb);clear HO_6;clear HO_8;clear HO_9;clear HO_10;clear HO126;clear HO130;clear HB;have HO_6 := n0_;have HO_8 := n1_;have HO_9 := n2_;have HO_10 := n3_;have HO126 := n4_;have HO130 := n5_;have HB := n6_;clear n0_ n1_ n2_ n3_ n4_ n5_ n6_;(try clear hb);(try clear hb2);(try clear hk);(try clear hi)) | ((with_reducible refine gate_callee (f := 30) rfl ?_);refine goesL_ (some 66) rfl rfl Try.func30 (by kernel_rfl) rfl #[.slice Ao21 t113.length co21,.int .i64 1] rfl (by (try simp only [List.map_toArray,List.map_cons,List.map_nil]);first | done | rfl | (simp only [List.length_drop,List.length_take];rfl)) ?_;(with_reducible refine (laws_markLog.calls kj12 (fun k_ => some k_ = (.slice Ao21 t113.length co21 : Value).ownBlock) (.slice Ao21 t113.length co21) t113 1 t132 t133 w _ ?side1 ?side2 A39.out).mono ?_);(case side1 => repeat (first | (with_reducible first | exact HB.out | apply below_alloc | apply pw_below_drewN | apply below_drew1) | exact HB.out));(case side2 => exact Kd.R_tight rfl HO_8.out);rintro e w48 ⟨rfl,hy0,hb,hkp⟩;refine ⟨_,rfl,?_⟩;have n0_ := Aside0.mk (Kd.R_mono (ok' := fun k_ => some k_ ≠ (v121 : Value).ownBlock) (Kd.R_keptB ((Kd.R_apart' HO_6.out (Kd.R_typed HO_8.out) (by decide))) hkp (fun k_ hk_ hs_ => (hk_.2) hs_)) (fun k_ hk_ => hk_.1.1));have n1_ := Aside0.mk (Kd.R_reok rfl hy0 (fun k_ e_ => HO_8.out.1 k_ e_));have n2_ := Aside0.mk (Kd.R_mono (ok' := fun k_ => some k_ ≠ (.slice Ao21 t113.length co21 : Value).ownBlock ∧ some k_ ≠ (.slice Ao43 t124.length co43 : Value).ownBlock ∧ some k_ ≠ (.slice Ao46 t128.length co46 : Value).ownBlock) (Kd.R_keptB (HO_9.out) hkp (fun k_ hk_ hs_ => (hk_.1.1) hs_)) (fun k_ hk_ => ⟨hk_.1.1.1,hk_.1.1.2,hk_.1.2⟩));have n3_ := Aside0.mk (Kd.R_mono (ok' := fun k_ => some k_ ≠ (v111 : Value).ownBlock) (Kd.R_keptB ((Kd.R_apart' HO_10.out (Kd.R_typed HO_8.out) (by decide))) hkp (fun k_ hk_ hs_ => (hk_.2) hs_)) (fun k_ hk_ => hk_.1.1));have n4_ := Aside0.mk (Kd.R_mono (ok' := fun k_ => some k_ ≠ (.slice Ao21 t113.length co21 : Value).ownBlock ∧ some k_ ≠ (.slice Ao22 t116.length co22 : Value).ownBlock ∧ some k_ ≠ (.slice Ao46 t128.length co46 : Value).ownBlock) (Kd.R_keptB (HO126.out) hkp (fun k_ hk_ hs_ => (hk_.1.1.2) hs_)) (fun k_ hk_ => ⟨hk_.1.1.1.2,hk_.1.1.2,hk_.1.2⟩));have n5_ := Aside0.mk (Kd.R_mono (ok' := fun k_ => some k_ ≠ (.slice Ao21 t113.length co21 : Value).ownBlock ∧ some k_ ≠ (.slice Ao22 t116.length co22 : Value).ownBlock ∧ some k_ ≠ (.slice Ao43 t124.length co43 : Value).ownBlock) (Kd.R_keptB (HO130.out) hkp (fun k_ hk_ hs_ => (hk_.1.1.2) hs_)) (fun k_ hk_ => ⟨hk_.1.1.1.2,hk_.1.1.2,hk_.1.2⟩));have n6_ := Aside0.mk (hb);clear HO_6;clear HO_8;clear HO_9;clear HO_10;clear HO126;clear HO130;clear HB;have HO_6 := n0_;have HO_8 := n1_;have HO_9 := n2_;have HO_10 := n3_;have HO126 := n4_;have HO130 := n5_;have HB := n6_;clear n0_ n1_ n2_ n3_ n4_ n5_ n6_;(try clear hb);(try clear hkp);(try clear hy0)) | ((with_reducible refine gate_callee (f := 30) rfl ?_);refine goesL_ (some 69) rfl rfl Try.func30 (by kernel_rfl) rfl #[.slice Ao22 t116.length co22,.int .i64 t132] rfl (by (try simp only [List.map_toArray,List.map_cons,List.map_nil]);first | done | rfl | (simp only [List.length_drop,List.length_take];rfl)) ?_;(with_reducible refine (laws_markLog.calls kj12 (fun k_ => some k_ = (.slice Ao22 t116.length co22 : Value).ownBlock) (.slice Ao22 t116.length co22) t116 t132 t134 t135 w _ ?side1 ?side2 A40.out).mono ?_);(case side1 => repeat (first | (with_reducible first | exact HB.out | apply below_alloc | apply pw_below_drewN | apply below_drew1) | exact HB.out));(case side2 => exact Kd.R_tight rfl HO_9.out);rintro e w49 ⟨rfl,hy0,hb,hkp⟩;refine ⟨_,rfl,?_⟩;have n0_ := Aside0.mk (Kd.R_mono (ok' := fun k_ => some k_ ≠ (v121 : Value).ownBlock) (Kd.R_keptB ((Kd.R_apart' HO_6.out (Kd.R_typed HO_9.out) (by decide))) hkp (fun k_ hk_ hs_ => (hk_.2) hs_)) (fun k_ hk_ => hk_.1.1));have n1_ := Aside0.mk (Kd.R_mono (ok' := fun k_ => some k_ ≠ (.slice Ao22 t116.length co22 : Value).ownBlock ∧ some k_ ≠ (.slice Ao43 t124.length co43 : Value).ownBlock ∧ some k_ ≠ (.slice Ao46 t128.length co46 : Value).ownBlock) (Kd.R_keptB (HO_8.out) hkp (fun k_ hk_ hs_ => (hk_.1.1) hs_)) (fun k_ hk_ => ⟨hk_.1.1.1,hk_.1.1.2,hk_.1.2⟩));have n2_ := Aside0.mk (Kd.R_reok rfl hy0 (fun k_ e_ => HO_9.out.1 k_ e_));have n3_ := Aside0.mk (Kd.R_mono (ok' := fun k_ => some k_ ≠ (v111 : Value).ownBlock) (Kd.R_keptB ((Kd.R_apart' HO_10.out (Kd.R_typed HO_9.out) (by decide))) hkp (fun k_ hk_ hs_ => (hk_.2) hs_)) (fun k_ hk_ => hk_.1.1));have n4_ := Aside0.mk (Kd.R_mono (ok' := fun k_ => some k_ ≠ (.slice Ao21 t113.length co21 : Value).ownBlock ∧ some k_ ≠ (.slice Ao22 t116.length co22 : Value).ownBlock ∧ some k_ ≠ (.slice Ao46 t128.length co46 : Value).ownBlock) (Kd.R_keptB (HO126.out) hkp (fun k_ hk_ hs_ => (hk_.2.1) hs_)) (fun k_ hk_ => ⟨hk_.1.1,hk_.1.2.1,hk_.1.2.2⟩));have n5_ := Aside0.mk (Kd.R_mono (ok' := fun k_ => some k_ ≠ (.slice Ao21 t113.length co21 : Value).ownBlock ∧ some k_ ≠ (.slice Ao22 t116.length co22 : Value).ownBlock ∧ some k_ ≠ (.slice Ao43 t124.length co43 : Value).ownBlock) (Kd.R_keptB (HO130.out) hkp (fun k_ hk_ hs_ => (hk_.2.1) hs_)) (fun k_ hk_ => ⟨hk_.1.1,hk_.1.2.1,hk_.1.2.2⟩));have n6_ := Aside0.mk (hb);clear HO_6;clear HO_8;clear HO_9;clear HO_10;clear HO126;clear HO130;clear HB;have HO_6 := n0_;have HO_8 := n1_;have HO_9 := n2_;have HO_10 := n3_;have HO126 := n4_;have HO130 := n5_;have HB := n6_;clear n0_ n1_ n2_ n3_ n4_ n5_ n6_;(try clear hb);(try clear hkp);(try clear hy0)))
        (try simp only [Act.put,List.setIfInBounds_toArray,List.set_cons_zero,List.set_cons_succ])
        go_cut [82] (fun v82 wc => ∃ (kq : Nat) (x82_40 : Bool),v82 = .bool x82_40 ∧ Aside0 (laws_FnExactStoryOf.j1 kq l0 l1 t109 t110 t119 x82_40 = some r) ∧ Aside0 (kq ≤ kj12) ∧ Aside0 (Kd.R k100 100 wc w.heap.size (fun k_ => some k_ ≠ (v121 : Value).ownBlock) v111 t109) ∧ Aside0 (Kd.R k100 100 wc w.heap.size (fun k_ => some k_ ≠ (v111 : Value).ownBlock) v121 t119) ∧ Aside0 (Below w.heap.size w wc))
        case first =>
         have H := HC41.out;clear HC41
         by_cases c50 : t134 < 0
         ·rw [if_pos c50] at H;have c50b0 : decide (t134 < 0) = true := decide_eq_true c50;clear c50;(first | rw [c50b0] | (simp only [i64_w,i32_w];rw [c50b0]) | skip);have H' := Aside0.mk H;clear H
          go_wp2
          go_meet
          case rel => exact ⟨_,(true),(by first | rfl | (simp only [IntKind.wrap_i64,wrap64];done) | (simp;done) | (simp [*];done)),H',⟨by have := HJ12.out;first | omega | exact Nat.le_refl _⟩,⟨by (with_reducible repeat (first | apply Kd.R_alloc | apply Kd.R_drewN | apply Kd.R_drew));exact HO_6.out⟩,⟨by (with_reducible repeat (first | apply Kd.R_alloc | apply Kd.R_drewN | apply Kd.R_drew));exact HO_10.out⟩,⟨by repeat (first | (with_reducible first | exact HB.out | apply below_alloc | apply pw_below_drewN | apply below_drew1) | exact HB.out)⟩⟩
         ·rw [if_neg c50] at H;have c50b0 : decide (t134 < 0) = false := decide_eq_false c50;clear c50;(first | rw [c50b0] | (simp only [i64_w,i32_w];rw [c50b0]) | skip);replace H := Option.bind_eq_some_iff.mp H;obtain ⟨t136,A510,H⟩ := H;replace H : (if t136 = true then (laws_FnExactStoryOf.j1 kj12 l0 l1 t109 t110 t119 (t120 != t110)) else (laws_FnExactStoryOf.j1 kj12 l0 l1 t109 t110 t119 true)) = some r := H;have A51 := Aside0.mk A510;clear A510
          by_cases c52 : t136 = true
          ·subst c52
           have H1 : (laws_FnExactStoryOf.j1 kj12 l0 l1 t109 t110 t119 (t120 != t110)) = some r := by rw [if_pos rfl] at H;exact H
           clear H;have H := H1;clear H1;have H' := Aside0.mk H;clear H;obtain ⟨Ao53,co53,eo53⟩ := Kd.R_slice HO_10.out;subst eo53;obtain ⟨Ao54,co54,eo54⟩ := Kd.R_slice HO_6.out;subst eo54
           go_wp2_with (first | (go_at_call 50;(with_reducible refine (laws_eqStepS.calls kj12 _ _ t119 _ _ t109 true _ ?side1 ?side2 ?side3 ?side4 A51.out).mono ?_);(case side1 => repeat (first | exact (Kd.R_reads' HO_10.out).2.2 | (with_reducible refine Kd.C_alloc ?_ _) | (with_reducible refine Kd.C_drewN ?_ _) | (with_reducible refine Kd.C_drew ?_)));(case side2 => exact (Kd.R_reads' HO_10.out).2.1);(case side3 => repeat (first | exact (Kd.R_reads' HO_6.out).2.2 | (with_reducible refine Kd.C_alloc ?_ _) | (with_reducible refine Kd.C_drewN ?_ _) | (with_reducible refine Kd.C_drew ?_)));(case side4 => exact (Kd.R_reads' HO_6.out).2.1);rintro e w55 ⟨rfl,hb⟩;have n0_ := Aside0.mk (Kd.R_below (by (with_reducible repeat (first | apply Kd.R_alloc | apply Kd.R_drewN | apply Kd.R_drew));exact HO_6.out) hb);have n1_ := Aside0.mk (Kd.R_below (by (with_reducible repeat (first | apply Kd.R_alloc | apply Kd.R_drewN | apply Kd.R_drew));exact HO_8.out) hb);have n2_ := Aside0.mk (Kd.R_below (by (with_reducible repeat (first | apply Kd.R_alloc | apply Kd.R_drewN | apply Kd.R_drew));exact HO_9.out) hb);have n3_ := Aside0.mk (Kd.R_below (by (with_reducible repeat (first | apply Kd.R_alloc | apply Kd.R_drewN | apply Kd.R_drew));exact HO_10.out) hb);have n4_ := Aside0.mk (Kd.R_below (by (with_reducible repeat (first | apply Kd.R_alloc | apply Kd.R_drewN | apply Kd.R_drew));exact HO126.out) hb);have n5_ := Aside0.mk (Kd.R_below (by (with_reducible repeat (first | apply Kd.R_alloc | apply Kd.R_drewN | apply Kd.R_drew));exact HO130.out) hb);have n6_ := Aside0.mk (below_step (by repeat (first | (with_reducible first | exact HB.out | apply below_alloc | apply pw_below_drewN | apply below_drew1) | exact HB.out)) hb);clear HO_6;clear HO_8;clear HO_9;clear HO_10;clear HO126;clear HO130;clear HB;have HO_6 := n0_;have HO_8 := n1_;have HO_9 := n2_;have HO_10 := n3_;have HO126 := n4_;have HO130 := n5_;have HB := n6_;clear n0_ n1_ n2_ n3_ n4_ n5_ n6_;(try clear hb);(try clear hb2);(try clear hk);(try clear hi)))
           go_meet
           case rel => exact ⟨_,((t120 != t110)),(by first | rfl | (simp only [IntKind.wrap_i64,wrap64];done) | (simp;done) | (simp [*];done)),H',⟨by have := HJ12.out;first | omega | exact Nat.le_refl _⟩,⟨by (with_reducible repeat (first | apply Kd.R_alloc | apply Kd.R_drewN | apply Kd.R_drew));exact HO_6.out⟩,⟨by (with_reducible repeat (first | apply Kd.R_alloc | apply Kd.R_drewN | apply Kd.R_drew));exact HO_10.out⟩,⟨by repeat (first | (with_reducible first | exact HB.out | apply below_alloc | apply pw_below_drewN | apply below_drew1) | exact HB.out)⟩⟩
          ·replace c52 := Bool.eq_false_iff.mpr c52;subst c52
           have H1 : (laws_FnExactStoryOf.j1 kj12 l0 l1 t109 t110 t119 true) = some r := by rw [if_neg (show ¬ (false = true) by decide)] at H;exact H
           clear H;have H := H1;clear H1;have H' := Aside0.mk H;clear H;obtain ⟨Ao56,co56,eo56⟩ := Kd.R_slice HO_10.out;subst eo56;obtain ⟨Ao57,co57,eo57⟩ := Kd.R_slice HO_6.out;subst eo57
           go_wp2_with (first | (go_at_call 50;(with_reducible refine (laws_eqStepS.calls kj12 _ _ t119 _ _ t109 false _ ?side1 ?side2 ?side3 ?side4 A51.out).mono ?_);(case side1 => repeat (first | exact (Kd.R_reads' HO_10.out).2.2 | (with_reducible refine Kd.C_alloc ?_ _) | (with_reducible refine Kd.C_drewN ?_ _) | (with_reducible refine Kd.C_drew ?_)));(case side2 => exact (Kd.R_reads' HO_10.out).2.1);(case side3 => repeat (first | exact (Kd.R_reads' HO_6.out).2.2 | (with_reducible refine Kd.C_alloc ?_ _) | (with_reducible refine Kd.C_drewN ?_ _) | (with_reducible refine Kd.C_drew ?_)));(case side4 => exact (Kd.R_reads' HO_6.out).2.1);rintro e w58 ⟨rfl,hb⟩;have n0_ := Aside0.mk (Kd.R_below (by (with_reducible repeat (first | apply Kd.R_alloc | apply Kd.R_drewN | apply Kd.R_drew));exact HO_6.out) hb);have n1_ := Aside0.mk (Kd.R_below (by (with_reducible repeat (first | apply Kd.R_alloc | apply Kd.R_drewN | apply Kd.R_drew));exact HO_8.out) hb);have n2_ := Aside0.mk (Kd.R_below (by (with_reducible repeat (first | apply Kd.R_alloc | apply Kd.R_drewN | apply Kd.R_drew));exact HO_9.out) hb);have n3_ := Aside0.mk (Kd.R_below (by (with_reducible repeat (first | apply Kd.R_alloc | apply Kd.R_drewN | apply Kd.R_drew));exact HO_10.out) hb);have n4_ := Aside0.mk (Kd.R_below (by (with_reducible repeat (first | apply Kd.R_alloc | apply Kd.R_drewN | apply Kd.R_drew));exact HO126.out) hb);have n5_ := Aside0.mk (Kd.R_below (by (with_reducible repeat (first | apply Kd.R_alloc | apply Kd.R_drewN | apply Kd.R_drew));exact HO130.out) hb);have n6_ := Aside0.mk (below_step (by repeat (first | (with_reducible first | exact HB.out | apply below_alloc | apply pw_below_drewN | apply below_drew1) | exact HB.out)) hb);clear HO_6;clear HO_8;clear HO_9;clear HO_10;clear HO126;clear HO130;clear HB;have HO_6 := n0_;have HO_8 := n1_;have HO_9 := n2_;have HO_10 := n3_;have HO126 := n4_;have HO130 := n5_;have HB := n6_;clear n0_ n1_ n2_ n3_ n4_ n5_ n6_;(try clear hb);(try clear hb2);(try clear hk);(try clear hi)))
           go_meet
           case rel => exact ⟨_,(true),(by first | rfl | (simp only [IntKind.wrap_i64,wrap64];done) | (simp;done) | (simp [*];done)),H',⟨by have := HJ12.out;first | omega | exact Nat.le_refl _⟩,⟨by (with_reducible repeat (first | apply Kd.R_alloc | apply Kd.R_drewN | apply Kd.R_drew));exact HO_6.out⟩,⟨by (with_reducible repeat (first | apply Kd.R_alloc | apply Kd.R_drewN | apply Kd.R_drew));exact HO_10.out⟩,⟨by repeat (first | (with_reducible first | exact HB.out | apply below_alloc | apply pw_below_drewN | apply below_drew1) | exact HB.out)⟩⟩
        case rest =>
         clear HC41;(try clear c1);(try clear c2);(try clear p2);(try clear c3);(try clear c4);(try clear c4b0);(try clear c5);(try clear c6);(try clear c6b0);(try clear c15);(try clear c19);(try clear c21);(try clear c23);(try clear c25);(try clear c30);(try clear c32);(try clear c35);(try clear c38);(try clear c50);(try clear c50b0);(try clear c52);(try clear p2);obtain ⟨kq,x82_40,rfl,HA,HJ40,HO_6,HO_10,HB⟩ := hcut
         cases kq with
         | zero => exact absurd HA.out (by simp [laws_FnExactStoryOf.j1])
         | succ kj40 =>
          have H := HA.out;clear HA;simp only [laws_FnExactStoryOf.j1] at H
          by_cases c59 : x82_40 = true
          ·subst c59
           have H1 : (some false) = some r := by rw [if_pos rfl] at H;exact H
           clear H;have H := H1;clear H1;obtain rfl := Option.some.inj H
           go_wp2
           go_ret
           exact ⟨by first | rfl | (simp [errW_none,errW_some,IntKind.wrap_i64,wrap64];done) | (simp [errW_none,errW_some] <;> rfl) | (simp [*,errW_none,errW_some] <;> rfl),by repeat (first | (with_reducible first | exact HB.out | apply below_alloc | apply pw_below_drewN | apply below_drew1) | exact HB.out)⟩
          ·replace c59 := Bool.eq_false_iff.mpr c59;subst c59
           have H1 : ((laws_markStepS.f kj40 t119 1).bind fun bt137 => ((laws_heldStepS.f kj40 bt137.2 1).bind fun t139 => (if t139 < 0 then (some false) else (if t139 = bt137.1 then ((laws_toLog.f kj40 l0).bind fun t140 => ((laws_toLog.f kj40 l1).bind fun t143 => ((impl_StoryOf.f kj40 t140 t143).bind fun bt146 => ((laws_eqStepS.f kj40 bt146.1 t109).bind fun t150 => (if t150 = true then (laws_FnExactStoryOf.j2 kj40 bt137.2 bt137.1 (bt146.2 != t110)) else (laws_FnExactStoryOf.j2 kj40 bt137.2 bt137.1 true)))))) else (some false))))) = some r := by rw [if_neg (show ¬ (false = true) by decide)] at H;exact H
           clear H;have H := H1;clear H1;replace H := Option.bind_eq_some_iff.mp H;obtain ⟨⟨t137,t138⟩,A600,H⟩ := H;replace H : ((laws_heldStepS.f kj40 t138 1).bind fun t139 => (if t139 < 0 then (some false) else (if t139 = t137 then ((laws_toLog.f kj40 l0).bind fun t140 => ((laws_toLog.f kj40 l1).bind fun t143 => ((impl_StoryOf.f kj40 t140 t143).bind fun bt146 => ((laws_eqStepS.f kj40 bt146.1 t109).bind fun t150 => (if t150 = true then (laws_FnExactStoryOf.j2 kj40 t138 t137 (bt146.2 != t110)) else (laws_FnExactStoryOf.j2 kj40 t138 t137 true)))))) else (some false)))) = some r := H;have A60 := Aside0.mk A600;clear A600;replace H := Option.bind_eq_some_iff.mp H;obtain ⟨t139,A610,H⟩ := H;replace H : (if t139 < 0 then (some false) else (if t139 = t137 then ((laws_toLog.f kj40 l0).bind fun t140 => ((laws_toLog.f kj40 l1).bind fun t143 => ((impl_StoryOf.f kj40 t140 t143).bind fun bt146 => ((laws_eqStepS.f kj40 bt146.1 t109).bind fun t150 => (if t150 = true then (laws_FnExactStoryOf.j2 kj40 t138 t137 (bt146.2 != t110)) else (laws_FnExactStoryOf.j2 kj40 t138 t137 true)))))) else (some false))) = some r := H;have A61 := Aside0.mk A610;clear A610
           by_cases c62 : t139 < 0
           ·rw [if_pos c62] at H;have c62b0 : decide (t139 < 0) = true := decide_eq_true c62;clear c62;obtain rfl := Option.some.inj H;obtain ⟨Ao63,co63,eo63⟩ := Kd.R_slice HO_10.out;subst eo63
            go_wp2_with (first | ((with_reducible refine gate_callee (f := 58) rfl ?_);refine goesL_ (some 85) rfl rfl Try.func58 (by kernel_rfl) rfl #[.slice Ao63 t119.length co63,.int .i64 1] rfl (by (try simp only [List.map_toArray,List.map_cons,List.map_nil]);first | done | rfl | (simp only [List.length_drop,List.length_take];rfl)) ?_;(with_reducible refine (laws_markStepS.calls kj40 (fun k_ => some k_ = (.slice Ao63 t119.length co63 : Value).ownBlock) (.slice Ao63 t119.length co63) t119 1 t137 t138 w _ ?side1 ?side2 A60.out).mono ?_);(case side1 => repeat (first | (with_reducible first | exact HB.out | apply below_alloc | apply pw_below_drewN | apply below_drew1) | exact HB.out));(case side2 => exact Kd.R_tight rfl HO_10.out);rintro e w64 ⟨rfl,hy0,hb,hkp⟩;refine ⟨_,rfl,?_⟩;have n0_ := Aside0.mk (Kd.R_mono (ok' := fun k_ => some k_ ≠ (.slice Ao63 t119.length co63 : Value).ownBlock) (Kd.R_keptB (HO_6.out) hkp (fun k_ hk_ hs_ => (hk_) hs_)) (fun k_ hk_ => hk_.1));have n1_ := Aside0.mk (Kd.R_reok rfl hy0 (fun k_ e_ => HO_10.out.1 k_ e_));have n2_ := Aside0.mk (hb);clear HO_6;clear HO_10;clear HB;have HO_6 := n0_;have HO_10 := n1_;have HB := n2_;clear n0_ n1_ n2_;(try clear hb);(try clear hkp);(try clear hy0)) | ((with_reducible refine gate_callee (f := 59) rfl ?_);refine goesL_ (some 88) rfl rfl Try.func59 (by kernel_rfl) rfl #[.slice Ao63 t138.length co63,.int .i64 1] rfl (by (try simp only [List.map_toArray,List.map_cons,List.map_nil]);first | done | (rw [show t138.length = t119.length from (Kd.R_reads' HO_10.out).1.symm] <;> rfl) | rfl | (simp only [List.length_drop,List.length_take];rfl)) ?_;(with_reducible refine (laws_heldStepS.calls kj40 _ _ t138 1 t139 _ ?side1 ?side2 A61.out).mono ?_);(case side1 => repeat (first | exact (Kd.R_reads' HO_10.out).2.2 | (with_reducible refine Kd.C_alloc ?_ _) | (with_reducible refine Kd.C_drewN ?_ _) | (with_reducible refine Kd.C_drew ?_)));(case side2 => rw [show t138.length = t119.length from (Kd.R_reads' HO_10.out).1.symm];exact (Kd.R_reads' HO_10.out).2.1);rintro e w' ⟨rfl,⟨nd,rfl⟩⟩;refine ⟨_,rfl,?_⟩))
            go_ret
            exact ⟨by first | rfl | (simp [errW_none,errW_some,IntKind.wrap_i64,wrap64];done) | (simp [errW_none,errW_some] <;> rfl) | (simp [*,errW_none,errW_some] <;> rfl),by repeat (first | (with_reducible first | exact HB.out | apply below_alloc | apply pw_below_drewN | apply below_drew1) | exact HB.out)⟩
           ·rw [if_neg c62] at H;have c62b0 : decide (t139 < 0) = false := decide_eq_false c62;clear c62
            by_cases c65 : t139 = t137
            ·rw [if_pos c65] at H;have c65b0 : (t139 == t137) = true := beq_iff_eq.mpr c65;have c65b1 : (t139 != t137) = false := bne_eq_false_iff_eq.mpr c65;clear c65;replace H := Option.bind_eq_some_iff.mp H;obtain ⟨t140,A660,H⟩ := H;replace H : ((laws_toLog.f kj40 l1).bind fun t143 => ((impl_StoryOf.f kj40 t140 t143).bind fun bt146 => ((laws_eqStepS.f kj40 bt146.1 t109).bind fun t150 => (if t150 = true then (laws_FnExactStoryOf.j2 kj40 t138 t137 (bt146.2 != t110)) else (laws_FnExactStoryOf.j2 kj40 t138 t137 true))))) = some r := H;have A66 := Aside0.mk A660;clear A660;replace H := Option.bind_eq_some_iff.mp H;obtain ⟨t143,A670,H⟩ := H;replace H : ((impl_StoryOf.f kj40 t140 t143).bind fun bt146 => ((laws_eqStepS.f kj40 bt146.1 t109).bind fun t150 => (if t150 = true then (laws_FnExactStoryOf.j2 kj40 t138 t137 (bt146.2 != t110)) else (laws_FnExactStoryOf.j2 kj40 t138 t137 true)))) = some r := H;have A67 := Aside0.mk A670;clear A670;replace H := Option.bind_eq_some_iff.mp H;obtain ⟨⟨t146,t147⟩,A680,H⟩ := H;replace H : ((laws_eqStepS.f kj40 t146 t109).bind fun t150 => (if t150 = true then (laws_FnExactStoryOf.j2 kj40 t138 t137 (t147 != t110)) else (laws_FnExactStoryOf.j2 kj40 t138 t137 true))) = some r := H;have A68 := Aside0.mk A680;clear A680;have HC69 := Aside0.mk H;clear H;obtain ⟨Ao70,co70,eo70⟩ := Kd.R_slice HO_10.out;subst eo70
             go_upto_region 32 with (first | ((with_reducible refine gate_callee (f := 58) rfl ?_);refine goesL_ (some 85) rfl rfl Try.func58 (by kernel_rfl) rfl #[.slice Ao70 t119.length co70,.int .i64 1] rfl (by (try simp only [List.map_toArray,List.map_cons,List.map_nil]);first | done | rfl | (simp only [List.length_drop,List.length_take];rfl)) ?_;(with_reducible refine (laws_markStepS.calls kj40 (fun k_ => some k_ = (.slice Ao70 t119.length co70 : Value).ownBlock) (.slice Ao70 t119.length co70) t119 1 t137 t138 w _ ?side1 ?side2 A60.out).mono ?_);(case side1 => repeat (first | (with_reducible first | exact HB.out | apply below_alloc | apply pw_below_drewN | apply below_drew1) | exact HB.out));(case side2 => exact Kd.R_tight rfl HO_10.out);rintro e w71 ⟨rfl,hy0,hb,hkp⟩;refine ⟨_,rfl,?_⟩;have n0_ := Aside0.mk (Kd.R_mono (ok' := fun k_ => some k_ ≠ (.slice Ao70 t119.length co70 : Value).ownBlock) (Kd.R_keptB (HO_6.out) hkp (fun k_ hk_ hs_ => (hk_) hs_)) (fun k_ hk_ => hk_.1));have n1_ := Aside0.mk (Kd.R_reok rfl hy0 (fun k_ e_ => HO_10.out.1 k_ e_));have n2_ := Aside0.mk (hb);clear HO_6;clear HO_10;clear HB;have HO_6 := n0_;have HO_10 := n1_;have HB := n2_;clear n0_ n1_ n2_;(try clear hb);(try clear hkp);(try clear hy0)) | ((with_reducible refine gate_callee (f := 59) rfl ?_);refine goesL_ (some 88) rfl rfl Try.func59 (by kernel_rfl) rfl #[.slice Ao70 t138.length co70,.int .i64 1] rfl (by (try simp only [List.map_toArray,List.map_cons,List.map_nil]);first | done | (rw [show t138.length = t119.length from (Kd.R_reads' HO_10.out).1.symm] <;> rfl) | rfl | (simp only [List.length_drop,List.length_take];rfl)) ?_;(with_reducible refine (laws_heldStepS.calls kj40 _ _ t138 1 t139 _ ?side1 ?side2 A61.out).mono ?_);(case side1 => repeat (first | exact (Kd.R_reads' HO_10.out).2.2 | (with_reducible refine Kd.C_alloc ?_ _) | (with_reducible refine Kd.C_drewN ?_ _) | (with_reducible refine Kd.C_drew ?_)));(case side2 => rw [show t138.length = t119.length from (Kd.R_reads' HO_10.out).1.symm];exact (Kd.R_reads' HO_10.out).2.1);rintro e w' ⟨rfl,⟨nd,rfl⟩⟩;refine ⟨_,rfl,?_⟩) | ((with_reducible refine gate_callee (f := 21) rfl ?_);refine goesL_ (some 96) rfl rfl Try.func21 (by kernel_rfl) rfl #[.slice A0 l0.length c0] rfl (by (try simp only [List.map_toArray,List.map_cons,List.map_nil]);first | done | rfl | (simp only [List.length_drop,List.length_take];rfl)) ?_;(with_reducible refine (laws_toLog.calls kj40 _ _ l0 t140 _ ?side1 ?side2 A66.out).mono ?_);(case side1 => repeat (first | exact (Kd.C_below HR0.out (by repeat (first | (with_reducible first | exact HB.out | apply below_alloc | apply pw_below_drewN | apply below_drew1) | exact HB.out))) | (with_reducible refine Kd.C_alloc ?_ _) | (with_reducible refine Kd.C_drewN ?_ _) | (with_reducible refine Kd.C_drew ?_)));(case side2 => exact HC0.out);rintro e w72 ⟨v141,rfl,ho0,hb⟩;refine ⟨_,rfl,?_⟩;have n0_ := Aside0.mk (Kd.R_below (by (with_reducible repeat (first | apply Kd.R_alloc | apply Kd.R_drewN | apply Kd.R_drew));exact HO_6.out) hb);have n1_ := Aside0.mk (Kd.R_below (by (with_reducible repeat (first | apply Kd.R_alloc | apply Kd.R_drewN | apply Kd.R_drew));exact HO_10.out) hb);have n2_ := Aside0.mk (Kd.R_lower ho0 (below_size (by repeat (first | (with_reducible first | exact HB.out | apply below_alloc | apply pw_below_drewN | apply below_drew1) | exact HB.out))));have n3_ := Aside0.mk (below_step (by repeat (first | (with_reducible first | exact HB.out | apply below_alloc | apply pw_below_drewN | apply below_drew1) | exact HB.out)) hb);clear HO_6;clear HO_10;clear HB;have HO_6 := n0_;have HO_10 := n1_;have HO142 := n2_;have HB := n3_;clear n0_ n1_ n2_ n3_;(try clear hb);(try clear hb2);(try clear hk);(try clear hi);(try clear ho0)) | ((with_reducible refine gate_callee (f := 21) rfl ?_);refine goesL_ (some 98) rfl rfl Try.func21 (by kernel_rfl) rfl #[.slice A1 l1.length c1] rfl (by (try simp only [List.map_toArray,List.map_cons,List.map_nil]);first | done | rfl | (simp only [List.length_drop,List.length_take];rfl)) ?_;(with_reducible refine (laws_toLog.calls kj40 _ _ l1 t143 _ ?side1 ?side2 A67.out).mono ?_);(case side1 => repeat (first | exact (Kd.C_below HR1.out HB.out) | (with_reducible refine Kd.C_alloc ?_ _) | (with_reducible refine Kd.C_drewN ?_ _) | (with_reducible refine Kd.C_drew ?_)));(case side2 => exact HC1.out);rintro e w73 ⟨v144,rfl,ho0,hb⟩;refine ⟨_,rfl,?_⟩;have n0_ := Aside0.mk (Kd.R_below (by (with_reducible repeat (first | apply Kd.R_alloc | apply Kd.R_drewN | apply Kd.R_drew));exact HO_6.out) hb);have n1_ := Aside0.mk (Kd.R_below (by (with_reducible repeat (first | apply Kd.R_alloc | apply Kd.R_drewN | apply Kd.R_drew));exact HO_10.out) hb);have n2_ := Aside0.mk (Kd.R_elder' (by (with_reducible repeat (first | apply Kd.R_alloc | apply Kd.R_drewN | apply Kd.R_drew));exact HO142.out) (Kd.R_base ho0) hb);have n3_ := Aside0.mk (Kd.R_lower (Kd.R_new' ho0 (Kd.R_lt (by (with_reducible repeat (first | apply Kd.R_alloc | apply Kd.R_drewN | apply Kd.R_drew));exact HO142.out))) (below_size (by repeat (first | (with_reducible first | exact HB.out | apply below_alloc | apply pw_below_drewN | apply below_drew1) | exact HB.out))));have n4_ := Aside0.mk (below_step (by repeat (first | (with_reducible first | exact HB.out | apply below_alloc | apply pw_below_drewN | apply below_drew1) | exact HB.out)) hb);clear HO_6;clear HO_10;clear HO142;clear HB;have HO_6 := n0_;have HO_10 := n1_;have HO142 := n2_;have HO145 := n3_;have HB := n4_;clear n0_ n1_ n2_ n3_ n4_;(try clear hb);(try clear hb2);(try clear hk);(try clear hi);(try clear ho0);obtain ⟨Ao74,co74,eo74⟩ := Kd.R_slice HO142.out;subst eo74;obtain ⟨Ao75,co75,eo75⟩ := Kd.R_slice HO145.out;subst eo75) | ((with_reducible refine gate_callee (f := 63) rfl ?_);refine goesL_ (some 99) rfl rfl Try.func63 (by kernel_rfl) rfl #[.slice Ao74 t140.length co74,.slice Ao75 t143.length co75] rfl (by (try simp only [List.map_toArray,List.map_cons,List.map_nil]);first | done | rfl | (simp only [List.length_drop,List.length_take];rfl)) ?_;(with_reducible refine (impl_StoryOf.calls kj40 _ _ t140 _ _ t143 t146 t147 _ ?side1 ?side2 ?side3 ?side4 A68.out).mono ?_);(case side1 => repeat (first | exact (Kd.R_reads' HO142.out).2.2 | (with_reducible refine Kd.C_alloc ?_ _) | (with_reducible refine Kd.C_drewN ?_ _) | (with_reducible refine Kd.C_drew ?_)));(case side2 => exact (Kd.R_reads' HO142.out).2.1);(case side3 => repeat (first | exact (Kd.R_reads' HO145.out).2.2 | (with_reducible refine Kd.C_alloc ?_ _) | (with_reducible refine Kd.C_drewN ?_ _) | (with_reducible refine Kd.C_drew ?_)));(case side4 => exact (Kd.R_reads' HO145.out).2.1);rintro e w76 ⟨v148,rfl,ho0,hb⟩;refine ⟨_,rfl,?_⟩;have n0_ := Aside0.mk (Kd.R_elder' (by (with_reducible repeat (first | apply Kd.R_alloc | apply Kd.R_drewN | apply Kd.R_drew));exact HO_6.out) (Kd.R_base ho0) hb);have n1_ := Aside0.mk (Kd.R_elder' (by (with_reducible repeat (first | apply Kd.R_alloc | apply Kd.R_drewN | apply Kd.R_drew));exact HO_10.out) (Kd.R_base ho0) hb);have n2_ := Aside0.mk (Kd.R_below (by (with_reducible repeat (first | apply Kd.R_alloc | apply Kd.R_drewN | apply Kd.R_drew));exact HO142.out) hb);have n3_ := Aside0.mk (Kd.R_below (by (with_reducible repeat (first | apply Kd.R_alloc | apply Kd.R_drewN | apply Kd.R_drew));exact HO145.out) hb);have n4_ := Aside0.mk (Kd.R_lower (Kd.R_new' (Kd.R_new' ho0 (Kd.R_lt (by (with_reducible repeat (first | apply Kd.R_alloc | apply Kd.R_drewN | apply Kd.R_drew));exact HO_6.out))) (Kd.R_lt (by (with_reducible repeat (first | apply Kd.R_alloc | apply Kd.R_drewN | apply Kd.R_drew));exact HO_10.out))) (below_size (by repeat (first | (with_reducible first | exact HB.out | apply below_alloc | apply pw_below_drewN | apply below_drew1) | exact HB.out))));have n5_ := Aside0.mk (below_step (by repeat (first | (with_reducible first | exact HB.out | apply below_alloc | apply pw_below_drewN | apply below_drew1) | exact HB.out)) hb);clear HO_6;clear HO_10;clear HO142;clear HO145;clear HB;have HO_6 := n0_;have HO_10 := n1_;have HO142 := n2_;have HO145 := n3_;have HO149 := n4_;have HB := n5_;clear n0_ n1_ n2_ n3_ n4_ n5_;(try clear hb);(try clear hb2);(try clear hk);(try clear hi);(try clear ho0)))
             (try simp only [Act.put,List.setIfInBounds_toArray,List.set_cons_zero,List.set_cons_succ])
             go_cut [110] (fun v110 wc => ∃ (kq : Nat) (x110_68 : Bool),v110 = .bool x110_68 ∧ Aside0 (laws_FnExactStoryOf.j2 kq t138 t137 x110_68 = some r) ∧ Aside0 (kq ≤ kj40) ∧ Aside0 (Kd.R k100 100 wc w.heap.size (fun _ => True) (.slice Ao70 t119.length co70) t138) ∧ Aside0 (Below w.heap.size w wc))
             case first =>
              have H := HC69.out;clear HC69;replace H := Option.bind_eq_some_iff.mp H;obtain ⟨t150,A770,H⟩ := H;replace H : (if t150 = true then (laws_FnExactStoryOf.j2 kj40 t138 t137 (t147 != t110)) else (laws_FnExactStoryOf.j2 kj40 t138 t137 true)) = some r := H;have A77 := Aside0.mk A770;clear A770
              by_cases c78 : t150 = true
              ·subst c78
               have H1 : (laws_FnExactStoryOf.j2 kj40 t138 t137 (t147 != t110)) = some r := by rw [if_pos rfl] at H;exact H
               clear H;have H := H1;clear H1;have H' := Aside0.mk H;clear H;obtain ⟨Ao79,co79,eo79⟩ := Kd.R_slice HO149.out;subst eo79;obtain ⟨Ao80,co80,eo80⟩ := Kd.R_slice HO_6.out;subst eo80
               go_wp2_with (first | ((with_reducible refine gate_callee (f := 50) rfl ?_);refine goesL_ (some 104) rfl rfl Try.func50 (by kernel_rfl) rfl #[.slice Ao79 t146.length co79,.slice Ao80 t109.length co80] rfl (by (try simp only [List.map_toArray,List.map_cons,List.map_nil]);first | done | rfl | (simp only [List.length_drop,List.length_take];rfl)) ?_;(with_reducible refine (laws_eqStepS.calls kj40 _ _ t146 _ _ t109 true _ ?side1 ?side2 ?side3 ?side4 A77.out).mono ?_);(case side1 => repeat (first | exact (Kd.R_reads' HO149.out).2.2 | (with_reducible refine Kd.C_alloc ?_ _) | (with_reducible refine Kd.C_drewN ?_ _) | (with_reducible refine Kd.C_drew ?_)));(case side2 => exact (Kd.R_reads' HO149.out).2.1);(case side3 => repeat (first | exact (Kd.R_reads' HO_6.out).2.2 | (with_reducible refine Kd.C_alloc ?_ _) | (with_reducible refine Kd.C_drewN ?_ _) | (with_reducible refine Kd.C_drew ?_)));(case side4 => exact (Kd.R_reads' HO_6.out).2.1);rintro e w81 ⟨rfl,hb⟩;refine ⟨_,rfl,?_⟩;have n0_ := Aside0.mk (Kd.R_below (by (with_reducible repeat (first | apply Kd.R_alloc | apply Kd.R_drewN | apply Kd.R_drew));exact HO_6.out) hb);have n1_ := Aside0.mk (Kd.R_below (by (with_reducible repeat (first | apply Kd.R_alloc | apply Kd.R_drewN | apply Kd.R_drew));exact HO_10.out) hb);have n2_ := Aside0.mk (Kd.R_below (by (with_reducible repeat (first | apply Kd.R_alloc | apply Kd.R_drewN | apply Kd.R_drew));exact HO142.out) hb);have n3_ := Aside0.mk (Kd.R_below (by (with_reducible repeat (first | apply Kd.R_alloc | apply Kd.R_drewN | apply Kd.R_drew));exact HO145.out) hb);have n4_ := Aside0.mk (Kd.R_below (by (with_reducible repeat (first | apply Kd.R_alloc | apply Kd.R_drewN | apply Kd.R_drew));exact HO149.out) hb);have n5_ := Aside0.mk (below_step (by repeat (first | (with_reducible first | exact HB.out | apply below_alloc | apply pw_below_drewN | apply below_drew1) | exact HB.out)) hb);clear HO_6;clear HO_10;clear HO142;clear HO145;clear HO149;clear HB;have HO_6 := n0_;have HO_10 := n1_;have HO142 := n2_;have HO145 := n3_;have HO149 := n4_;have HB := n5_;clear n0_ n1_ n2_ n3_ n4_ n5_;(try clear hb);(try clear hb2);(try clear hk);(try clear hi)))
               go_meet
               case rel => exact ⟨_,((t147 != t110)),(by first | rfl | (simp only [IntKind.wrap_i64,wrap64];done) | (simp;done) | (simp [*];done)),H',⟨by have := HJ12.out;have := HJ40.out;first | omega | exact Nat.le_refl _⟩,⟨by (with_reducible repeat (first | apply Kd.R_alloc | apply Kd.R_drewN | apply Kd.R_drew));exact Kd.R_mono HO_10.out (fun _ hk => trivial)⟩,⟨by repeat (first | (with_reducible first | exact HB.out | apply below_alloc | apply pw_below_drewN | apply below_drew1) | exact HB.out)⟩⟩
              ·replace c78 := Bool.eq_false_iff.mpr c78;subst c78
               have H1 : (laws_FnExactStoryOf.j2 kj40 t138 t137 true) = some r := by rw [if_neg (show ¬ (false = true) by decide)] at H;exact H
               clear H;have H := H1;clear H1;have H' := Aside0.mk H;clear H;obtain ⟨Ao82,co82,eo82⟩ := Kd.R_slice HO149.out;subst eo82;obtain ⟨Ao83,co83,eo83⟩ := Kd.R_slice HO_6.out;subst eo83
               go_wp2_with (first | ((with_reducible refine gate_callee (f := 50) rfl ?_);refine goesL_ (some 104) rfl rfl Try.func50 (by kernel_rfl) rfl #[.slice Ao82 t146.length co82,.slice Ao83 t109.length co83] rfl (by (try simp only [List.map_toArray,List.map_cons,List.map_nil]);first | done | rfl | (simp only [List.length_drop,List.length_take];rfl)) ?_;(with_reducible refine (laws_eqStepS.calls kj40 _ _ t146 _ _ t109 false _ ?side1 ?side2 ?side3 ?side4 A77.out).mono ?_);(case side1 => repeat (first | exact (Kd.R_reads' HO149.out).2.2 | (with_reducible refine Kd.C_alloc ?_ _) | (with_reducible refine Kd.C_drewN ?_ _) | (with_reducible refine Kd.C_drew ?_)));(case side2 => exact (Kd.R_reads' HO149.out).2.1);(case side3 => repeat (first | exact (Kd.R_reads' HO_6.out).2.2 | (with_reducible refine Kd.C_alloc ?_ _) | (with_reducible refine Kd.C_drewN ?_ _) | (with_reducible refine Kd.C_drew ?_)));(case side4 => exact (Kd.R_reads' HO_6.out).2.1);rintro e w84 ⟨rfl,hb⟩;refine ⟨_,rfl,?_⟩;have n0_ := Aside0.mk (Kd.R_below (by (with_reducible repeat (first | apply Kd.R_alloc | apply Kd.R_drewN | apply Kd.R_drew));exact HO_6.out) hb);have n1_ := Aside0.mk (Kd.R_below (by (with_reducible repeat (first | apply Kd.R_alloc | apply Kd.R_drewN | apply Kd.R_drew));exact HO_10.out) hb);have n2_ := Aside0.mk (Kd.R_below (by (with_reducible repeat (first | apply Kd.R_alloc | apply Kd.R_drewN | apply Kd.R_drew));exact HO142.out) hb);have n3_ := Aside0.mk (Kd.R_below (by (with_reducible repeat (first | apply Kd.R_alloc | apply Kd.R_drewN | apply Kd.R_drew));exact HO145.out) hb);have n4_ := Aside0.mk (Kd.R_below (by (with_reducible repeat (first | apply Kd.R_alloc | apply Kd.R_drewN | apply Kd.R_drew));exact HO149.out) hb);have n5_ := Aside0.mk (below_step (by repeat (first | (with_reducible first | exact HB.out | apply below_alloc | apply pw_below_drewN | apply below_drew1) | exact HB.out)) hb);clear HO_6;clear HO_10;clear HO142;clear HO145;clear HO149;clear HB;have HO_6 := n0_;have HO_10 := n1_;have HO142 := n2_;have HO145 := n3_;have HO149 := n4_;have HB := n5_;clear n0_ n1_ n2_ n3_ n4_ n5_;(try clear hb);(try clear hb2);(try clear hk);(try clear hi)))
               go_meet
               case rel => exact ⟨_,(true),(by first | rfl | (simp only [IntKind.wrap_i64,wrap64];done) | (simp;done) | (simp [*];done)),H',⟨by have := HJ12.out;have := HJ40.out;first | omega | exact Nat.le_refl _⟩,⟨by (with_reducible repeat (first | apply Kd.R_alloc | apply Kd.R_drewN | apply Kd.R_drew));exact Kd.R_mono HO_10.out (fun _ hk => trivial)⟩,⟨by repeat (first | (with_reducible first | exact HB.out | apply below_alloc | apply pw_below_drewN | apply below_drew1) | exact HB.out)⟩⟩
             case rest =>
              clear HC69;(try clear c1);(try clear c2);(try clear p2);(try clear c3);(try clear c4);(try clear c4b0);(try clear c5);(try clear c6);(try clear c6b0);(try clear c7);(try clear c15);(try clear c19);(try clear c21);(try clear c23);(try clear c25);(try clear c30);(try clear c32);(try clear c35);(try clear c38);(try clear c50);(try clear c50b0);(try clear c52);(try clear c58);(try clear c59);(try clear c62);(try clear c62b0);(try clear c63);(try clear c65);(try clear c65b0);(try clear c65b1);(try clear c78);(try clear p2);obtain ⟨kq,x110_68,rfl,HA,HJ68,HO_10,HB⟩ := hcut;have hl10_68 := (Kd.R_reads' HO_10.out).1;rw [hl10_68] at HO_10;(try simp only [hl10_68])
              cases kq with
              | zero => exact absurd HA.out (by simp [laws_FnExactStoryOf.j2])
              | succ kj68 =>
               have H := HA.out;clear HA;simp only [laws_FnExactStoryOf.j2] at H
               by_cases c85 : x110_68 = true
               ·subst c85
                have H1 : (some false) = some r := by rw [if_pos rfl] at H;exact H
                clear H;have H := H1;clear H1;obtain rfl := Option.some.inj H
                go_wp2
                go_ret
                exact ⟨by first | rfl | (simp [errW_none,errW_some,IntKind.wrap_i64,wrap64];done) | (simp [errW_none,errW_some] <;> rfl) | (simp [*,errW_none,errW_some] <;> rfl),by repeat (first | (with_reducible first | exact HB.out | apply below_alloc | apply pw_below_drewN | apply below_drew1) | exact HB.out)⟩
               ·replace c85 := Bool.eq_false_iff.mpr c85;subst c85
                have H1 : ((laws_heldStepS.f kj68 t138 1).bind fun t151 => (if t151 < 0 then (some false) else (if t151 = t137 then (some true) else (some false)))) = some r := by rw [if_neg (show ¬ (false = true) by decide)] at H;exact H
                clear H;have H := H1;clear H1;replace H := Option.bind_eq_some_iff.mp H;obtain ⟨t151,A860,H⟩ := H;replace H : (if t151 < 0 then (some false) else (if t151 = t137 then (some true) else (some false))) = some r := H;have A86 := Aside0.mk A860;clear A860
                by_cases c87 : t151 < 0
                ·rw [if_pos c87] at H;have c87b0 : decide (t151 < 0) = true := decide_eq_true c87;clear c87;obtain rfl := Option.some.inj H
                 go_wp2_with (first | ((with_reducible refine gate_callee (f := 59) rfl ?_);refine goesL_ (some 113) rfl rfl Try.func59 (by kernel_rfl) rfl #[.slice Ao70 t138.length co70,.int .i64 1] rfl (by (try simp only [List.map_toArray,List.map_cons,List.map_nil]);first | done | rfl | (simp only [List.length_drop,List.length_take];rfl)) ?_;(with_reducible refine (laws_heldStepS.calls kj68 _ _ t138 1 t151 _ ?side1 ?side2 A86.out).mono ?_);(case side1 => repeat (first | exact (Kd.R_reads' HO_10.out).2.2 | (with_reducible refine Kd.C_alloc ?_ _) | (with_reducible refine Kd.C_drewN ?_ _) | (with_reducible refine Kd.C_drew ?_)));(case side2 => exact (Kd.R_reads' HO_10.out).2.1);rintro e w' ⟨rfl,⟨nd,rfl⟩⟩;refine ⟨_,rfl,?_⟩))
                 go_ret
                 exact ⟨by first | rfl | (simp [errW_none,errW_some,IntKind.wrap_i64,wrap64];done) | (simp [errW_none,errW_some] <;> rfl) | (simp [*,errW_none,errW_some] <;> rfl),by repeat (first | (with_reducible first | exact HB.out | apply below_alloc | apply pw_below_drewN | apply below_drew1) | exact HB.out)⟩
                ·rw [if_neg c87] at H;have c87b0 : decide (t151 < 0) = false := decide_eq_false c87;clear c87
                 by_cases c88 : t151 = t137
                 ·rw [if_pos c88] at H;have c88b0 : (t151 == t137) = true := beq_iff_eq.mpr c88;have c88b1 : (t151 != t137) = false := bne_eq_false_iff_eq.mpr c88;clear c88;obtain rfl := Option.some.inj H
                  go_wp2_with (first | ((with_reducible refine gate_callee (f := 59) rfl ?_);refine goesL_ (some 113) rfl rfl Try.func59 (by kernel_rfl) rfl #[.slice Ao70 t138.length co70,.int .i64 1] rfl (by (try simp only [List.map_toArray,List.map_cons,List.map_nil]);first | done | rfl | (simp only [List.length_drop,List.length_take];rfl)) ?_;(with_reducible refine (laws_heldStepS.calls kj68 _ _ t138 1 t151 _ ?side1 ?side2 A86.out).mono ?_);(case side1 => repeat (first | exact (Kd.R_reads' HO_10.out).2.2 | (with_reducible refine Kd.C_alloc ?_ _) | (with_reducible refine Kd.C_drewN ?_ _) | (with_reducible refine Kd.C_drew ?_)));(case side2 => exact (Kd.R_reads' HO_10.out).2.1);rintro e w' ⟨rfl,⟨nd,rfl⟩⟩;refine ⟨_,rfl,?_⟩))
                  go_ret
                  exact ⟨by first | rfl | (simp [errW_none,errW_some,IntKind.wrap_i64,wrap64];done) | (simp [errW_none,errW_some] <;> rfl) | (simp [*,errW_none,errW_some] <;> rfl),by repeat (first | (with_reducible first | exact HB.out | apply below_alloc | apply pw_below_drewN | apply below_drew1) | exact HB.out)⟩
                 ·rw [if_neg c88] at H;have c88b0 : (t151 == t137) = false := beq_eq_false_iff_ne.mpr c88;have c88b1 : (t151 != t137) = true := bne_iff_ne.mpr c88;obtain rfl := Option.some.inj H
                  go_wp2_with (first | ((with_reducible refine gate_callee (f := 59) rfl ?_);refine goesL_ (some 113) rfl rfl Try.func59 (by kernel_rfl) rfl #[.slice Ao70 t138.length co70,.int .i64 1] rfl (by (try simp only [List.map_toArray,List.map_cons,List.map_nil]);first | done | rfl | (simp only [List.length_drop,List.length_take];rfl)) ?_;(with_reducible refine (laws_heldStepS.calls kj68 _ _ t138 1 t151 _ ?side1 ?side2 A86.out).mono ?_);(case side1 => repeat (first | exact (Kd.R_reads' HO_10.out).2.2 | (with_reducible refine Kd.C_alloc ?_ _) | (with_reducible refine Kd.C_drewN ?_ _) | (with_reducible refine Kd.C_drew ?_)));(case side2 => exact (Kd.R_reads' HO_10.out).2.1);rintro e w' ⟨rfl,⟨nd,rfl⟩⟩;refine ⟨_,rfl,?_⟩))
                  go_ret
                  exact ⟨by first | rfl | (simp [errW_none,errW_some,IntKind.wrap_i64,wrap64];done) | (simp [errW_none,errW_some] <;> rfl) | (simp [*,errW_none,errW_some] <;> rfl),by repeat (first | (with_reducible first | exact HB.out | apply below_alloc | apply pw_below_drewN | apply below_drew1) | exact HB.out)⟩
            ·rw [if_neg c65] at H;have c65b0 : (t139 == t137) = false := beq_eq_false_iff_ne.mpr c65;have c65b1 : (t139 != t137) = true := bne_iff_ne.mpr c65;obtain rfl := Option.some.inj H;obtain ⟨Ao89,co89,eo89⟩ := Kd.R_slice HO_10.out;subst eo89
             go_wp2_with (first | ((with_reducible refine gate_callee (f := 58) rfl ?_);refine goesL_ (some 85) rfl rfl Try.func58 (by kernel_rfl) rfl #[.slice Ao89 t119.length co89,.int .i64 1] rfl (by (try simp only [List.map_toArray,List.map_cons,List.map_nil]);first | done | rfl | (simp only [List.length_drop,List.length_take];rfl)) ?_;(with_reducible refine (laws_markStepS.calls kj40 (fun k_ => some k_ = (.slice Ao89 t119.length co89 : Value).ownBlock) (.slice Ao89 t119.length co89) t119 1 t137 t138 w _ ?side1 ?side2 A60.out).mono ?_);(case side1 => repeat (first | (with_reducible first | exact HB.out | apply below_alloc | apply pw_below_drewN | apply below_drew1) | exact HB.out));(case side2 => exact Kd.R_tight rfl HO_10.out);rintro e w90 ⟨rfl,hy0,hb,hkp⟩;refine ⟨_,rfl,?_⟩;have n0_ := Aside0.mk (Kd.R_mono (ok' := fun k_ => some k_ ≠ (.slice Ao89 t119.length co89 : Value).ownBlock) (Kd.R_keptB (HO_6.out) hkp (fun k_ hk_ hs_ => (hk_) hs_)) (fun k_ hk_ => hk_.1));have n1_ := Aside0.mk (Kd.R_reok rfl hy0 (fun k_ e_ => HO_10.out.1 k_ e_));have n2_ := Aside0.mk (hb);clear HO_6;clear HO_10;clear HB;have HO_6 := n0_;have HO_10 := n1_;have HB := n2_;clear n0_ n1_ n2_;(try clear hb);(try clear hkp);(try clear hy0)) | ((with_reducible refine gate_callee (f := 59) rfl ?_);refine goesL_ (some 88) rfl rfl Try.func59 (by kernel_rfl) rfl #[.slice Ao89 t138.length co89,.int .i64 1] rfl (by (try simp only [List.map_toArray,List.map_cons,List.map_nil]);first | done | (rw [show t138.length = t119.length from (Kd.R_reads' HO_10.out).1.symm] <;> rfl) | rfl | (simp only [List.length_drop,List.length_take];rfl)) ?_;(with_reducible refine (laws_heldStepS.calls kj40 _ _ t138 1 t139 _ ?side1 ?side2 A61.out).mono ?_);(case side1 => repeat (first | exact (Kd.R_reads' HO_10.out).2.2 | (with_reducible refine Kd.C_alloc ?_ _) | (with_reducible refine Kd.C_drewN ?_ _) | (with_reducible refine Kd.C_drew ?_)));(case side2 => rw [show t138.length = t119.length from (Kd.R_reads' HO_10.out).1.symm];exact (Kd.R_reads' HO_10.out).2.1);rintro e w' ⟨rfl,⟨nd,rfl⟩⟩;refine ⟨_,rfl,?_⟩))
             go_ret
             exact ⟨by first | rfl | (simp [errW_none,errW_some,IntKind.wrap_i64,wrap64];done) | (simp [errW_none,errW_some] <;> rfl) | (simp [*,errW_none,errW_some] <;> rfl),by repeat (first | (with_reducible first | exact HB.out | apply below_alloc | apply pw_below_drewN | apply below_drew1) | exact HB.out)⟩
       ·replace c38 := Bool.eq_false_iff.mpr c38;subst c38
        have H1 : (some false) = some r := by rw [if_neg (show ¬ (false = true) by decide)] at H;exact H
        clear H;have H := H1;clear H1;obtain rfl := Option.some.inj H
        go_wp2_with (first | ((with_reducible refine gate_callee (f := 21) rfl ?_);refine goesL_ (some 56) rfl rfl Try.func21 (by kernel_rfl) rfl #[.slice A0 l0.length c0] rfl (by (try simp only [List.map_toArray,List.map_cons,List.map_nil]);first | done | rfl | (simp only [List.length_drop,List.length_take];rfl)) ?_;(with_reducible refine (laws_toLog.calls kj12 _ _ l0 t124 _ ?side1 ?side2 A33.out).mono ?_);(case side1 => repeat (first | exact (Kd.C_below HR0.out HB.out) | (with_reducible refine Kd.C_alloc ?_ _) | (with_reducible refine Kd.C_drewN ?_ _) | (with_reducible refine Kd.C_drew ?_)));(case side2 => exact HC0.out);rintro e w91 ⟨v125,rfl,ho0,hb⟩;refine ⟨_,rfl,?_⟩;have n0_ := Aside0.mk (Kd.R_below (by (with_reducible repeat (first | apply Kd.R_alloc | apply Kd.R_drewN | apply Kd.R_drew));exact HO_6.out) hb);have n1_ := Aside0.mk (Kd.R_elder' (by (with_reducible repeat (first | apply Kd.R_alloc | apply Kd.R_drewN | apply Kd.R_drew));exact HO_8.out) (Kd.R_base ho0) hb);have n2_ := Aside0.mk (Kd.R_elder' (by (with_reducible repeat (first | apply Kd.R_alloc | apply Kd.R_drewN | apply Kd.R_drew));exact HO_9.out) (Kd.R_base ho0) hb);have n3_ := Aside0.mk (Kd.R_below (by (with_reducible repeat (first | apply Kd.R_alloc | apply Kd.R_drewN | apply Kd.R_drew));exact HO_10.out) hb);have n4_ := Aside0.mk (Kd.R_lower (Kd.R_new' (Kd.R_new' ho0 (Kd.R_lt (by (with_reducible repeat (first | apply Kd.R_alloc | apply Kd.R_drewN | apply Kd.R_drew));exact HO_8.out))) (Kd.R_lt (by (with_reducible repeat (first | apply Kd.R_alloc | apply Kd.R_drewN | apply Kd.R_drew));exact HO_9.out))) (below_size (by repeat (first | (with_reducible first | exact HB.out | apply below_alloc | apply pw_below_drewN | apply below_drew1) | exact HB.out))));have n5_ := Aside0.mk (below_step (by repeat (first | (with_reducible first | exact HB.out | apply below_alloc | apply pw_below_drewN | apply below_drew1) | exact HB.out)) hb);clear HO_6;clear HO_8;clear HO_9;clear HO_10;clear HB;have HO_6 := n0_;have HO_8 := n1_;have HO_9 := n2_;have HO_10 := n3_;have HO126 := n4_;have HB := n5_;clear n0_ n1_ n2_ n3_ n4_ n5_;(try clear hb);(try clear hb2);(try clear hk);(try clear hi);(try clear ho0);obtain ⟨Ao92,co92,eo92⟩ := Kd.R_slice HO126.out;subst eo92) | ((with_reducible refine gate_callee (f := 23) rfl ?_);refine goesL_ (some 57) rfl rfl Try.func23 (by kernel_rfl) rfl #[.slice Ao21 t113.length co21,.slice Ao92 t124.length co92] rfl (by (try simp only [List.map_toArray,List.map_cons,List.map_nil]);first | done | rfl | (simp only [List.length_drop,List.length_take];rfl)) ?_;(with_reducible refine (laws_eqLog.calls kj12 _ _ t113 _ _ t124 true _ ?side1 ?side2 ?side3 ?side4 A34.out).mono ?_);(case side1 => repeat (first | exact (Kd.R_reads' HO_8.out).2.2 | (with_reducible refine Kd.C_alloc ?_ _) | (with_reducible refine Kd.C_drewN ?_ _) | (with_reducible refine Kd.C_drew ?_)));(case side2 => exact (Kd.R_reads' HO_8.out).2.1);(case side3 => repeat (first | exact (Kd.R_reads' HO126.out).2.2 | (with_reducible refine Kd.C_alloc ?_ _) | (with_reducible refine Kd.C_drewN ?_ _) | (with_reducible refine Kd.C_drew ?_)));(case side4 => exact (Kd.R_reads' HO126.out).2.1);rintro e w93 ⟨rfl,hb⟩;refine ⟨_,rfl,?_⟩;have n0_ := Aside0.mk (Kd.R_below (by (with_reducible repeat (first | apply Kd.R_alloc | apply Kd.R_drewN | apply Kd.R_drew));exact HO_6.out) hb);have n1_ := Aside0.mk (Kd.R_below (by (with_reducible repeat (first | apply Kd.R_alloc | apply Kd.R_drewN | apply Kd.R_drew));exact HO_8.out) hb);have n2_ := Aside0.mk (Kd.R_below (by (with_reducible repeat (first | apply Kd.R_alloc | apply Kd.R_drewN | apply Kd.R_drew));exact HO_9.out) hb);have n3_ := Aside0.mk (Kd.R_below (by (with_reducible repeat (first | apply Kd.R_alloc | apply Kd.R_drewN | apply Kd.R_drew));exact HO_10.out) hb);have n4_ := Aside0.mk (Kd.R_below (by (with_reducible repeat (first | apply Kd.R_alloc | apply Kd.R_drewN | apply Kd.R_drew));exact HO126.out) hb);have n5_ := Aside0.mk (below_step (by repeat (first | (with_reducible first | exact HB.out | apply below_alloc | apply pw_below_drewN | apply below_drew1) | exact HB.out)) hb);clear HO_6;clear HO_8;clear HO_9;clear HO_10;clear HO126;clear HB;have HO_6 := n0_;have HO_8 := n1_;have HO_9 := n2_;have HO_10 := n3_;have HO126 := n4_;have HB := n5_;clear n0_ n1_ n2_ n3_ n4_ n5_;(try clear hb);(try clear hb2);(try clear hk);(try clear hi)) | ((with_reducible refine gate_callee (f := 21) rfl ?_);refine goesL_ (some 61) rfl rfl Try.func21 (by kernel_rfl) rfl #[.slice A1 l1.length c1] rfl (by (try simp only [List.map_toArray,List.map_cons,List.map_nil]);first | done | rfl | (simp only [List.length_drop,List.length_take];rfl)) ?_;(with_reducible refine (laws_toLog.calls kj12 _ _ l1 t128 _ ?side1 ?side2 A36.out).mono ?_);(case side1 => repeat (first | exact (Kd.C_below HR1.out HB.out) | (with_reducible refine Kd.C_alloc ?_ _) | (with_reducible refine Kd.C_drewN ?_ _) | (with_reducible refine Kd.C_drew ?_)));(case side2 => exact HC1.out);rintro e w94 ⟨v129,rfl,ho0,hb⟩;refine ⟨_,rfl,?_⟩;have n0_ := Aside0.mk (Kd.R_below (by (with_reducible repeat (first | apply Kd.R_alloc | apply Kd.R_drewN | apply Kd.R_drew));exact HO_6.out) hb);have n1_ := Aside0.mk (Kd.R_elder' (by (with_reducible repeat (first | apply Kd.R_alloc | apply Kd.R_drewN | apply Kd.R_drew));exact HO_8.out) (Kd.R_base ho0) hb);have n2_ := Aside0.mk (Kd.R_elder' (by (with_reducible repeat (first | apply Kd.R_alloc | apply Kd.R_drewN | apply Kd.R_drew));exact HO_9.out) (Kd.R_base ho0) hb);have n3_ := Aside0.mk (Kd.R_below (by (with_reducible repeat (first | apply Kd.R_alloc | apply Kd.R_drewN | apply Kd.R_drew));exact HO_10.out) hb);have n4_ := Aside0.mk (Kd.R_elder' (by (with_reducible repeat (first | apply Kd.R_alloc | apply Kd.R_drewN | apply Kd.R_drew));exact HO126.out) (Kd.R_base ho0) hb);have n5_ := Aside0.mk (Kd.R_lower (Kd.R_new' (Kd.R_new' (Kd.R_new' ho0 (Kd.R_lt (by (with_reducible repeat (first | apply Kd.R_alloc | apply Kd.R_drewN | apply Kd.R_drew));exact HO_8.out))) (Kd.R_lt (by (with_reducible repeat (first | apply Kd.R_alloc | apply Kd.R_drewN | apply Kd.R_drew));exact HO_9.out))) (Kd.R_lt (by (with_reducible repeat (first | apply Kd.R_alloc | apply Kd.R_drewN | apply Kd.R_drew));exact HO126.out))) (below_size (by repeat (first | (with_reducible first | exact HB.out | apply below_alloc | apply pw_below_drewN | apply below_drew1) | exact HB.out))));have n6_ := Aside0.mk (below_step (by repeat (first | (with_reducible first | exact HB.out | apply below_alloc | apply pw_below_drewN | apply below_drew1) | exact HB.out)) hb);clear HO_6;clear HO_8;clear HO_9;clear HO_10;clear HO126;clear HB;have HO_6 := n0_;have HO_8 := n1_;have HO_9 := n2_;have HO_10 := n3_;have HO126 := n4_;have HO130 := n5_;have HB := n6_;clear n0_ n1_ n2_ n3_ n4_ n5_ n6_;(try clear hb);(try clear hb2);(try clear hk);(try clear hi);(try clear ho0);obtain ⟨Ao95,co95,eo95⟩ := Kd.R_slice HO130.out;subst eo95) | ((with_reducible refine gate_callee (f := 23) rfl ?_);refine goesL_ (some 62) rfl rfl Try.func23 (by kernel_rfl) rfl #[.slice Ao22 t116.length co22,.slice Ao95 t128.length co95] rfl (by (try simp only [List.map_toArray,List.map_cons,List.map_nil]);first | done | rfl | (simp only [List.length_drop,List.length_take];rfl)) ?_;(with_reducible refine (laws_eqLog.calls kj12 _ _ t116 _ _ t128 false _ ?side1 ?side2 ?side3 ?side4 A37.out).mono ?_);(case side1 => repeat (first | exact (Kd.R_reads' HO_9.out).2.2 | (with_reducible refine Kd.C_alloc ?_ _) | (with_reducible refine Kd.C_drewN ?_ _) | (with_reducible refine Kd.C_drew ?_)));(case side2 => exact (Kd.R_reads' HO_9.out).2.1);(case side3 => repeat (first | exact (Kd.R_reads' HO130.out).2.2 | (with_reducible refine Kd.C_alloc ?_ _) | (with_reducible refine Kd.C_drewN ?_ _) | (with_reducible refine Kd.C_drew ?_)));(case side4 => exact (Kd.R_reads' HO130.out).2.1);rintro e w96 ⟨rfl,hb⟩;refine ⟨_,rfl,?_⟩;have n0_ := Aside0.mk (Kd.R_below (by (with_reducible repeat (first | apply Kd.R_alloc | apply Kd.R_drewN | apply Kd.R_drew));exact HO_6.out) hb);have n1_ := Aside0.mk (Kd.R_below (by (with_reducible repeat (first | apply Kd.R_alloc | apply Kd.R_drewN | apply Kd.R_drew));exact HO_8.out) hb);have n2_ := Aside0.mk (Kd.R_below (by (with_reducible repeat (first | apply Kd.R_alloc | apply Kd.R_drewN | apply Kd.R_drew));exact HO_9.out) hb);have n3_ := Aside0.mk (Kd.R_below (by (with_reducible repeat (first | apply Kd.R_alloc | apply Kd.R_drewN | apply Kd.R_drew));exact HO_10.out) hb);have n4_ := Aside0.mk (Kd.R_below (by (with_reducible repeat (first | apply Kd.R_alloc | apply Kd.R_drewN | apply Kd.R_drew));exact HO126.out) hb);have n5_ := Aside0.mk (Kd.R_below (by (with_reducible repeat (first | apply Kd.R_alloc | apply Kd.R_drewN | apply Kd.R_drew));exact HO130.out) hb);have n6_ := Aside0.mk (below_step (by repeat (first | (with_reducible first | exact HB.out | apply below_alloc | apply pw_below_drewN | apply below_drew1) | exact HB.out)) hb);clear HO_6;clear HO_8;clear HO_9;clear HO_10;clear HO126;clear HO130;clear HB;have HO_6 := n0_;have HO_8 := n1_;have HO_9 := n2_;have HO_10 := n3_;have HO126 := n4_;have HO130 := n5_;have HB := n6_;clear n0_ n1_ n2_ n3_ n4_ n5_ n6_;(try clear hb);(try clear hb2);(try clear hk);(try clear hi)))
        go_ret
        exact ⟨by first | rfl | (simp [errW_none,errW_some,IntKind.wrap_i64,wrap64];done) | (simp [errW_none,errW_some] <;> rfl) | (simp [*,errW_none,errW_some] <;> rfl),by repeat (first | (with_reducible first | exact HB.out | apply below_alloc | apply pw_below_drewN | apply below_drew1) | exact HB.out)⟩
      ·replace c35 := Bool.eq_false_iff.mpr c35;subst c35
       have H1 : (some false) = some r := by rw [if_neg (show ¬ (false = true) by decide)] at H;exact H
       clear H;have H := H1;clear H1;obtain rfl := Option.some.inj H
       go_wp2_with (first | ((with_reducible refine gate_callee (f := 21) rfl ?_);refine goesL_ (some 56) rfl rfl Try.func21 (by kernel_rfl) rfl #[.slice A0 l0.length c0] rfl (by (try simp only [List.map_toArray,List.map_cons,List.map_nil]);first | done | rfl | (simp only [List.length_drop,List.length_take];rfl)) ?_;(with_reducible refine (laws_toLog.calls kj12 _ _ l0 t124 _ ?side1 ?side2 A33.out).mono ?_);(case side1 => repeat (first | exact (Kd.C_below HR0.out HB.out) | (with_reducible refine Kd.C_alloc ?_ _) | (with_reducible refine Kd.C_drewN ?_ _) | (with_reducible refine Kd.C_drew ?_)));(case side2 => exact HC0.out);rintro e w97 ⟨v125,rfl,ho0,hb⟩;refine ⟨_,rfl,?_⟩;have n0_ := Aside0.mk (Kd.R_below (by (with_reducible repeat (first | apply Kd.R_alloc | apply Kd.R_drewN | apply Kd.R_drew));exact HO_6.out) hb);have n1_ := Aside0.mk (Kd.R_elder' (by (with_reducible repeat (first | apply Kd.R_alloc | apply Kd.R_drewN | apply Kd.R_drew));exact HO_8.out) (Kd.R_base ho0) hb);have n2_ := Aside0.mk (Kd.R_elder' (by (with_reducible repeat (first | apply Kd.R_alloc | apply Kd.R_drewN | apply Kd.R_drew));exact HO_9.out) (Kd.R_base ho0) hb);have n3_ := Aside0.mk (Kd.R_below (by (with_reducible repeat (first | apply Kd.R_alloc | apply Kd.R_drewN | apply Kd.R_drew));exact HO_10.out) hb);have n4_ := Aside0.mk (Kd.R_lower (Kd.R_new' (Kd.R_new' ho0 (Kd.R_lt (by (with_reducible repeat (first | apply Kd.R_alloc | apply Kd.R_drewN | apply Kd.R_drew));exact HO_8.out))) (Kd.R_lt (by (with_reducible repeat (first | apply Kd.R_alloc | apply Kd.R_drewN | apply Kd.R_drew));exact HO_9.out))) (below_size (by repeat (first | (with_reducible first | exact HB.out | apply below_alloc | apply pw_below_drewN | apply below_drew1) | exact HB.out))));have n5_ := Aside0.mk (below_step (by repeat (first | (with_reducible first | exact HB.out | apply below_alloc | apply pw_below_drewN | apply below_drew1) | exact HB.out)) hb);clear HO_6;clear HO_8;clear HO_9;clear HO_10;clear HB;have HO_6 := n0_;have HO_8 := n1_;have HO_9 := n2_;have HO_10 := n3_;have HO126 := n4_;have HB := n5_;clear n0_ n1_ n2_ n3_ n4_ n5_;(try clear hb);(try clear hb2);(try clear hk);(try clear hi);(try clear ho0);obtain ⟨Ao98,co98,eo98⟩ := Kd.R_slice HO126.out;subst eo98) | ((with_reducible refine gate_callee (f := 23) rfl ?_);refine goesL_ (some 57) rfl rfl Try.func23 (by kernel_rfl) rfl #[.slice Ao21 t113.length co21,.slice Ao98 t124.length co98] rfl (by (try simp only [List.map_toArray,List.map_cons,List.map_nil]);first | done | rfl | (simp only [List.length_drop,List.length_take];rfl)) ?_;(with_reducible refine (laws_eqLog.calls kj12 _ _ t113 _ _ t124 false _ ?side1 ?side2 ?side3 ?side4 A34.out).mono ?_);(case side1 => repeat (first | exact (Kd.R_reads' HO_8.out).2.2 | (with_reducible refine Kd.C_alloc ?_ _) | (with_reducible refine Kd.C_drewN ?_ _) | (with_reducible refine Kd.C_drew ?_)));(case side2 => exact (Kd.R_reads' HO_8.out).2.1);(case side3 => repeat (first | exact (Kd.R_reads' HO126.out).2.2 | (with_reducible refine Kd.C_alloc ?_ _) | (with_reducible refine Kd.C_drewN ?_ _) | (with_reducible refine Kd.C_drew ?_)));(case side4 => exact (Kd.R_reads' HO126.out).2.1);rintro e w99 ⟨rfl,hb⟩;refine ⟨_,rfl,?_⟩;have n0_ := Aside0.mk (Kd.R_below (by (with_reducible repeat (first | apply Kd.R_alloc | apply Kd.R_drewN | apply Kd.R_drew));exact HO_6.out) hb);have n1_ := Aside0.mk (Kd.R_below (by (with_reducible repeat (first | apply Kd.R_alloc | apply Kd.R_drewN | apply Kd.R_drew));exact HO_8.out) hb);have n2_ := Aside0.mk (Kd.R_below (by (with_reducible repeat (first | apply Kd.R_alloc | apply Kd.R_drewN | apply Kd.R_drew));exact HO_9.out) hb);have n3_ := Aside0.mk (Kd.R_below (by (with_reducible repeat (first | apply Kd.R_alloc | apply Kd.R_drewN | apply Kd.R_drew));exact HO_10.out) hb);have n4_ := Aside0.mk (Kd.R_below (by (with_reducible repeat (first | apply Kd.R_alloc | apply Kd.R_drewN | apply Kd.R_drew));exact HO126.out) hb);have n5_ := Aside0.mk (below_step (by repeat (first | (with_reducible first | exact HB.out | apply below_alloc | apply pw_below_drewN | apply below_drew1) | exact HB.out)) hb);clear HO_6;clear HO_8;clear HO_9;clear HO_10;clear HO126;clear HB;have HO_6 := n0_;have HO_8 := n1_;have HO_9 := n2_;have HO_10 := n3_;have HO126 := n4_;have HB := n5_;clear n0_ n1_ n2_ n3_ n4_ n5_;(try clear hb);(try clear hb2);(try clear hk);(try clear hi)))
       go_ret
       exact ⟨by first | rfl | (simp [errW_none,errW_some,IntKind.wrap_i64,wrap64];done) | (simp [errW_none,errW_some] <;> rfl) | (simp [*,errW_none,errW_some] <;> rfl),by repeat (first | (with_reducible first | exact HB.out | apply below_alloc | apply pw_below_drewN | apply below_drew1) | exact HB.out)⟩
end Go.Proofs.Ytidkniacmcbgiaa.G
end

section
namespace Go.Proofs.Ytidkniacmcbgiaa.G
open Go.RowKit Go.Proofs.YtidkniacmcbgiaaW.PrintWords Go.Proofs.YtidkniacmcbgiaaW.PrintLast Go.Proofs.YtidkniacmcbgiaaW.PrintMore
attribute [local go_sem] max2_int min2_int max_two min_two max_three min_three max_four min_four
set_option linter.unusedVariables false
set_option linter.unusedSimpArgs false
open Go.ChangeShapes Go.WideShapes Go.Deep in
structure Opens {α : Type} (P : Program) (t : TypeId) (d : Kd α) (Wf : α → Prop) : Prop where
  sz : P.cellsOf t = d.sz
  op : ∀ {H : Type} {enc : TypeId × Value → H} {w : World} {base : Nat} {spare : Nat → Bool} {held : Bool} {fuel : Nat} {cs : List Value} {x : DataW H × List MemPlace}, DataW.trod enc P w base spare held fuel t cs = some x → ∃ a : α, d.K w a cs ∧ Wf a
theorem opens_int {P : Program} {t : TypeId} {k : IntKind} (ht : P.underlying t = some (.int k)) (hC : P.cellsOf t = 1) : Opens P t (Kd.int k) (fun n => (Lit.int k n).wf = true) where
  sz := hC
  op := fun h => by
    obtain ⟨n, rfl, _, hw⟩ := DataW.trod_int ht h
    exact ⟨n, rfl, hw⟩
theorem opens_bool {P : Program} {t : TypeId} (ht : P.underlying t = some .bool) (hC : P.cellsOf t = 1) : Opens P t Kd.bool (fun _ => True) where
  sz := hC
  op := fun h => by
    obtain ⟨n, rfl, _⟩ := DataW.trod_bool ht h
    exact ⟨n, rfl, trivial⟩
theorem list_of {α : Type} {Q : Nat → α → Prop} : ∀ n, (∀ i, i < n → ∃ y, Q i y) → ∃ l : List α, l.length = n ∧ ∀ i y, l[i]? = some y → Q i y
  | 0, _ => ⟨[], rfl, fun i y h => by simp at h⟩
  | n + 1, h => by
    obtain ⟨l, hl, hq⟩ := list_of n (fun i hi => h i (by omega))
    obtain ⟨y, hy⟩ := h n (by omega)
    refine ⟨l ++ [y], by simp [hl], fun i z hz => ?_⟩
    rcases Nat.lt_or_ge i l.length with hi | hi
    · rw [List.getElem?_append_left hi] at hz
      exact hq i z hz
    · rw [List.getElem?_append_right hi] at hz
      have : i - l.length = 0 := by
        rcases Nat.eq_zero_or_pos (i - l.length) with h0 | h0
        · exact h0
        · rw [List.getElem?_eq_none (by simp; omega)] at hz
          cases hz
      rw [this] at hz
      have e : y = z := by simpa using hz
      subst e
      have : i = n := by omega
      subst this
      exact hy
theorem opens_slice {α : Type} {P : Program} {t e : TypeId} {d : Kd α} {Wf : α → Prop} (ht : P.underlying t = some (.slice e)) (hC : P.cellsOf t = 1) (he : Opens P e d Wf) : Opens P t (Kd.slice e d) (fun l => l.length ≤ 9223372036854775807 ∧ ∀ x ∈ l, Wf x) where
  sz := hC
  op := fun {H enc w base spare held fuel cs x} h => by
    rcases Go.Deep.open_slice ht h with ⟨rfl, _⟩ | ⟨a, len, cap, m, n, D, Pl, rfl, hb, hl, hm, hmm, _, hi⟩
    · exact ⟨[], ⟨none, 0, rfl, Nat.le_refl _, rfl, by simp, fun h => absurd h (by simp)⟩, by simp, by simp⟩
    · have hlen : len ≤ m := by rw [hmm]; split <;> omega
      obtain ⟨l, hll, hq⟩ := list_of (Q := fun i y => (∃ c, c.length = d.sz ∧ d.K w y c ∧ ∀ j u, c[j]? = some u → w.cell? (a.add (i * d.sz + j)) = some u) ∧ Wf y) len (fun i him => by
        obtain ⟨cs', hc, ht'⟩ := hi i (by omega)
        obtain ⟨y, hK, hW⟩ := he.op ht'
        obtain ⟨_, hcl, hat⟩ := World.cells?_some hc
        refine ⟨y, ⟨cs', d.K_len hK, hK, fun j u hu => ?_⟩, hW⟩
        have hj : j < cs'.length := (List.getElem?_eq_some_iff.1 hu).1
        have h1 := hat j (by rw [he.sz, ← d.K_len hK]; exact hj)
        rw [← he.sz, ← Go.Deep.add_add, h1, hu])
      refine ⟨l, ⟨some a, cap, by rw [hll], by rw [hll]; exact hl, rfl, by rw [hll]; have := hm; unfold maxLen at this; omega, fun _ => ⟨a, rfl, fun j p hj => (hq j p hj).1⟩⟩, by rw [hll]; have := hm; unfold maxLen at this; omega, fun y hy => ?_⟩
      obtain ⟨j, hj, rfl⟩ := List.mem_iff_getElem.1 hy
      exact (hq j _ (List.getElem?_eq_getElem hj)).2
def offs (P : Program) : List TypeId → Nat → Nat
  | [], _ => 0
  | _ :: _, 0 => 0
  | t :: ts, i + 1 => P.cellsOf t + offs P ts i
def OpensF {α : Type} (P : Program) (ts : List TypeId) (d : Kd α) (Wf : α → Prop) : Prop :=
  ∀ {H : Type} {enc : TypeId × Value → H} {w : World} {base : Nat} {spare : Nat → Bool} {held : Bool} {n : Nat} {cs : List Value}, cs.length = d.sz → (∀ i t, ts[i]? = some t → ∃ x, DataW.trod enc P w base spare held n t ((cs.drop (offs P ts i)).take (P.cellsOf t)) = some x) → ∃ a : α, d.K w a cs ∧ Wf a
theorem opensF_one {α : Type} {P : Program} {t : TypeId} {d : Kd α} {Wf : α → Prop} (h : Opens P t d Wf) : OpensF P [t] d Wf := fun {H enc w base spare held n cs} hl hf => by
  obtain ⟨x, hx⟩ := hf 0 t rfl
  simp only [offs, List.drop_zero] at hx
  rw [List.take_of_length_le (by rw [hl, h.sz]; exact Nat.le_refl _)] at hx
  exact h.op hx
theorem opensF_cons {α β : Type} {P : Program} {t : TypeId} {ts : List TypeId} {d : Kd α} {d' : Kd β} {Wf : α → Prop} {Wf' : β → Prop} (h : Opens P t d Wf) (h' : OpensF P ts d' Wf') : OpensF P (t :: ts) (Kd.pair d d') (fun x => Wf x.1 ∧ Wf' x.2) := fun {H enc w base spare held n cs} hl hf => by
  have hl' : cs.length = d.sz + d'.sz := hl
  obtain ⟨x, hx⟩ := hf 0 t rfl
  simp only [offs, List.drop_zero] at hx
  obtain ⟨a, hK, hW⟩ := h.op hx
  obtain ⟨b, hK', hW'⟩ := h' (enc := enc) (w := w) (base := base) (spare := spare) (held := held) (n := n) (cs := cs.drop d.sz) (by rw [List.length_drop, hl']; omega) (fun i t' ht' => by
    obtain ⟨y, hy⟩ := hf (i + 1) t' (by simpa using ht')
    refine ⟨y, ?_⟩
    rw [List.drop_drop]
    simpa only [offs, h.sz] using hy)
  refine ⟨(a, b), ⟨_, _, (List.take_append_drop d.sz cs).symm, ?_, hK'⟩, hW, hW'⟩
  rw [← h.sz]
  exact hK
theorem opens_struct {α β : Type} {P : Program} {t : TypeId} {fs : Array Field} {d : Kd α} {Wf : α → Prop} (f : β → α) (g : α → β) (hfg : ∀ a, f (g a) = a) (ht : P.underlying t = some (.struct fs)) (hC : P.cellsOf t = d.sz)
    (ho : ((List.range fs.size).all fun i => decide ((fs[i]?.map Field.offset) = some (offs P (fs.toList.map Field.type) i))) = true) (h : OpensF P (fs.toList.map Field.type) d Wf) : Opens P t (Kd.iso d f) (fun x => Wf (f x)) where
  sz := hC
  op := fun {H enc w base spare held fuel cs x} hx => by
    obtain ⟨xs, n, _, _, hlen, hxl, hf⟩ := DataW.trod_struct ht hx
    obtain ⟨a, hK, hW⟩ := h (enc := enc) (w := w) (base := base) (spare := spare) (held := held) (n := n) (cs := cs) (by rw [hlen, hC]) (fun i t' ht' => by
      have hi : i < fs.size := by
        have := (List.getElem?_eq_some_iff.1 ht').1
        simpa using this
      have e : fs[i]? = some fs[i] := Array.getElem?_eq_getElem hi
      have et : fs[i].type = t' := by
        rw [List.getElem?_map] at ht'
        have : fs.toList[i]? = some fs[i] := by simp [hi]
        rw [this] at ht'
        simpa using ht'
      have eo := of_decide_eq_true (List.all_eq_true.1 ho i (List.mem_range.2 hi))
      rw [e] at eo
      have eo' : fs[i].offset = offs P (fs.toList.map Field.type) i := by simpa using eo
      have h1 := hf i fs[i] e
      rw [et, eo'] at h1
      exact ⟨_, h1.trans (List.getElem?_eq_getElem (show i < xs.length by omega))⟩)
    exact ⟨g a, by show d.K w (f (g a)) cs; rw [hfg]; exact hK, by show Wf (f (g a)); rw [hfg]; exact hW⟩
theorem op2 : Opens Try.prog 2 (Kd.int .i64) (fun x : Int => (Lit.int .i64 x).wf = true) := opens_int (k := .i64) Try.underlying2 (by kernel_rfl)
theorem op4 : Opens Try.prog 4 Kd.bool (fun x : Bool => True) := opens_bool Try.underlying4 (by kernel_rfl)
theorem op75 : Opens Try.prog 75 k75 (fun x : S75 => (Lit.int .i64 x.f0).wf = true ∧ (Lit.int .i64 x.f1).wf = true ∧ True) := opens_struct (fun x : S75 => (x.f0, x.f1, x.f2)) (fun a => ⟨a.1, a.2.1, a.2.2⟩) (fun _ => rfl) Try.underlying75 (by kernel_rfl) (by kernel_rfl) (opensF_cons op2 (opensF_cons op2 (opensF_one op4)))
theorem op22 : Opens Try.prog 22 (Kd.slice 75 k75) (fun x : List (S75) => (x.length ≤ 9223372036854775807 ∧ ∀ x_ ∈ x, (Lit.int .i64 x_.f0).wf = true ∧ (Lit.int .i64 x_.f1).wf = true ∧ True)) := opens_slice Try.underlying22 (by kernel_rfl) op75
end Go.Proofs.Ytidkniacmcbgiaa.G
end

section
namespace Go.Proofs.Ytidkniacmcbgiaa.G.Pure
open Go.RowKit Go.Proofs.Ytidkniacmcbgiaa.G Go.Proofs.YtidkniacmcbgiaaW.PrintWords Go.Proofs.YtidkniacmcbgiaaW.PrintLast Go.Proofs.YtidkniacmcbgiaaW.PrintMore
set_option linter.unusedVariables false
set_option linter.unusedSimpArgs false
theorem w64 {n : Int} (h0 : -9223372036854775808 ≤ n) (h1 : n ≤ 9223372036854775807) : wrap64 n = n := by
 unfold wrap64
 omega
theorem loop_inv {σ γ : Type} (L : Nat → σ → Option γ) (n : Nat) (I : Nat → σ → Prop) (R : γ → Prop)
  (hs : ∀ k i s,i < n → I i s → (∃ s',I (i + 1) s' ∧ L (k + 1) s = L k s') ∨ (∃ r,R r ∧ L (k + 1) s = some r))
  (he : ∀ k s,I n s → ∃ r,R r ∧ L (k + 1) s = some r) : ∀ k s,I 0 s → n < k → ∃ r,R r ∧ L k s = some r := by
 have go : ∀ d i k s,i + d = n → I i s → d < k → ∃ r,R r ∧ L k s = some r := by
  intro d
  induction d with
  | zero =>
   intro i k s hi hI hk
   obtain ⟨k,rfl⟩ : ∃ m,k = m + 1 := ⟨k - 1,by omega⟩
   obtain rfl : i = n := by omega
   exact he k s hI
  | succ d ih =>
   intro i k s hi hI hk
   obtain ⟨k,rfl⟩ : ∃ m,k = m + 1 := ⟨k - 1,by omega⟩
   rcases hs k i s (by omega) hI with ⟨s',hI',h⟩ | h
   ·rw [h]
    exact ih (i + 1) k s' (by omega) hI' (by omega)
   ·exact h
 intro k s hI hk
 exact go n 0 k s (by omega) hI hk
theorem take_set_succ {α : Type} {l : List α} {i : Nat} (h : i < l.length) (v : α) : (l.set i v).take (i + 1) = l.take i ++ [v] := by
 rw [List.take_succ_eq_append_getElem (by simpa using h)]
 simp [List.take_set_of_le]
theorem rd_nat {l : List Int} {i : Nat} (h : i < l.length) : rd l (i : Int) = l[i] := by
 simp [rd,List.getD_eq_getElem?_getD,List.getElem?_eq_getElem h]
end Go.Proofs.Ytidkniacmcbgiaa.G.Pure
end

section
namespace Go.Proofs.Ytidkniacmcbgiaa.G.Pure
open Go.RowKit Go.Proofs.Ytidkniacmcbgiaa.G Go.Proofs.YtidkniacmcbgiaaW.PrintWords Go.Proofs.YtidkniacmcbgiaaW.PrintLast Go.Proofs.YtidkniacmcbgiaaW.PrintMore
set_option linter.unusedVariables false
set_option linter.unusedSimpArgs false
abbrev En := S73
def entryOf (x : S75) : En := ⟨x.f0,x.f1,x.f2⟩
theorem szLog_eq (l : List (S75)) (a : Int) (h0 : 0 ≤ a) (h1 : a ≤ 1048576) (hl : l.length ≤ 9223372036854775807) : laws_szLog.f l a = some (if a - l.length < 0 then -1 else a - l.length) := by
 unfold laws_szLog.f
 rw [w64 (by omega) (by omega)]
 split <;> rfl
theorem rd_laws_Entry {l : List (S75)} {i : Nat} (h : i < l.length) : rd_T75 l (i : Int) = l[i] := by
 simp [rd_T75,List.getD_eq_getElem?_getD,List.getElem?_eq_getElem h]
theorem toLog_eq (k : Nat) (l : List (S75)) (hl : l.length ≤ 1048576) (hk : l.length < k) : laws_toLog.f k l = some (l.map entryOf) := by
 unfold laws_toLog.f
 rw [if_pos (by omega),if_pos (by omega)]
 obtain ⟨r,hr,h⟩ := loop_inv (fun k (s : List En × Int) => laws_toLog.l0 k l s.1 s.2) l.length (fun i s => s.2 = (i : Int) ∧ s.1.length = l.length ∧ s.1.take i = (l.map entryOf).take i) (fun r => r = l.map entryOf)
  (fun k i s hi ⟨h1,h2,h3⟩ => by
   obtain ⟨acc,x⟩ := s
   simp only at h1 h2 h3
   subst h1
   refine .inl ⟨(acc.set i (entryOf l[i]),((i + 1 : Nat) : Int)),⟨rfl,by simpa using h2,?_⟩,?_⟩
   ·rw [take_set_succ (by omega),h3,List.take_succ_eq_append_getElem (by simpa using hi)]
    simp
   ·simp only [laws_toLog.l0]
    rw [if_pos (by omega),if_pos (by omega),rd_laws_Entry hi]
    simp only [laws_toEntry.f,Option.bind_some]
    rw [if_pos (by omega),w64 (by omega) (by omega)]
    rfl)
  (fun k s ⟨h1,h2,h3⟩ => by
   obtain ⟨acc,x⟩ := s
   simp only at h1 h2 h3
   subst h1
   refine ⟨acc,?_,?_⟩
   ·rw [List.take_of_length_le (by omega),List.take_of_length_le (by simp)] at h3
    exact h3
   ·simp only [laws_toLog.l0]
    rw [if_neg (by omega)]) k (List.replicate l.length z73,0) ⟨rfl,by simp,by simp⟩ hk
 subst hr
 simpa using h
theorem eqEntry_self (a : En) : laws_eqEntry.f a.f0 a.f1 a.f2 a.f0 a.f1 a.f2 = some true := by
 simp [laws_eqEntry.f]
theorem eqLog_self (k : Nat) (a : List En) (hl : a.length ≤ 1048576) (hk : a.length < k) : laws_eqLog.f k a a = some true := by
 unfold laws_eqLog.f
 rw [if_pos rfl]
 obtain ⟨r,hr,h⟩ := loop_inv (fun k (s : Int) => laws_eqLog.l0 k a a s) a.length (fun i s => s = (i : Int)) (fun r => r = true)
  (fun k i s hi h1 => by
   subst h1
   refine .inl ⟨((i + 1 : Nat) : Int),rfl,?_⟩
   simp only [laws_eqLog.l0]
   rw [if_pos (by omega),if_pos (by omega),if_pos (by omega),eqEntry_self]
   simp only [Option.bind_some,if_true]
   rw [w64 (by omega) (by omega)]
   rfl)
  (fun k s h1 => by
   subst h1
   refine ⟨true,rfl,?_⟩
   simp only [laws_eqLog.l0]
   rw [if_neg (by omega)]) k 0 rfl hk
 subst hr
 exact h
theorem rd_impl_Entry {l : List En} {i : Nat} (h : i < l.length) : rd_T73 l (i : Int) = l[i] := by
 simp [rd_T73,List.getD_eq_getElem?_getD,List.getElem?_eq_getElem h]
theorem rd_set_Entry {l : List En} {i : Nat} (h : i < l.length) (v : En) : rd_T73 (l.set i v) (i : Int) = v := by
 rw [rd_impl_Entry (by simpa using h)]
 simp
end Go.Proofs.Ytidkniacmcbgiaa.G.Pure
end

section
namespace Go.Proofs.Ytidkniacmcbgiaa.G.Pure
open Go.RowKit Go.Proofs.Ytidkniacmcbgiaa.G Go.Proofs.YtidkniacmcbgiaaW.PrintWords Go.Proofs.YtidkniacmcbgiaaW.PrintLast Go.Proofs.YtidkniacmcbgiaaW.PrintMore
set_option linter.unusedVariables false
set_option linter.unusedSimpArgs false
theorem loop_inv2 {σ γ : Type} (L : Nat → σ → Option γ) (n K0 : Nat) (I : Nat → σ → Prop) (R : γ → Prop)
  (hs : ∀ k i s,i < n → K0 ≤ k → I i s → (∃ s',I (i + 1) s' ∧ L (k + 1) s = L k s') ∨ (∃ r,R r ∧ L (k + 1) s = some r))
  (he : ∀ k s,K0 ≤ k → I n s → ∃ r,R r ∧ L (k + 1) s = some r) : ∀ k s,I 0 s → n + K0 < k → ∃ r,R r ∧ L k s = some r := by
 have go : ∀ d i k s,i + d = n → I i s → d + K0 < k → ∃ r,R r ∧ L k s = some r := by
  intro d
  induction d with
  | zero =>
   intro i k s hi hI hk
   obtain ⟨k,rfl⟩ : ∃ m,k = m + 1 := ⟨k - 1,by omega⟩
   obtain rfl : i = n := by omega
   exact he k s (by omega) hI
  | succ d ih =>
   intro i k s hi hI hk
   obtain ⟨k,rfl⟩ : ∃ m,k = m + 1 := ⟨k - 1,by omega⟩
   rcases hs k i s (by omega) (by omega) hI with ⟨s',hI',h⟩ | h
   ·rw [h]
    exact ih (i + 1) k s' (by omega) hI' (by omega)
   ·exact h
 intro k s hI hk
 exact go n 0 k s (by omega) hI (by omega)
end Go.Proofs.Ytidkniacmcbgiaa.G.Pure
end

section
namespace Go.Proofs.Ytidkniacmcbgiaa.G.Pure
open Go.RowKit Go.Proofs.Ytidkniacmcbgiaa.G Go.Proofs.YtidkniacmcbgiaaW.PrintWords Go.Proofs.YtidkniacmcbgiaaW.PrintLast Go.Proofs.YtidkniacmcbgiaaW.PrintMore
set_option linter.unusedVariables false
set_option linter.unusedSimpArgs false
def atE (l : List En) (i : Nat) (out : List Int) : Int := impl_Log_up.at l (rd_T73 l (i : Int)) out
def upsStep (l : List En) (i : Nat) (out : List Int) : Option (List Int) :=
  if decide (atE l i out < 0) = (rd_T73 l (i : Int)).f2 then none else if (rd_T73 l (i : Int)).f2 = true then some (out.eraseIdx (atE l i out).toNat) else some (out ++ [(i : Int)])
def ups (l : List En) : Nat → Option (List Int)
  | 0 => some []
  | n + 1 => (ups l n).bind (upsStep l n)
def lastT (l : List En) : Nat → Int
  | 0 => 0
  | n + 1 => (rd_T73 l (n : Int)).f0
def gd (l : List En) : Nat → Bool
  | 0 => true
  | n + 1 => gd l n && impl_Log_up.good (lastT l n) (rd_T73 l (n : Int))
theorem to_eq (l : List En) (n : Nat) : impl_Log_up.to l n = if gd l n = true then (ups l n).map (fun o => (lastT l n, o)) else none := by
  induction n with
  | zero => rfl
  | succ n ih =>
    rw [impl_Log_up.to, ih, ups, gd]
    cases hg : gd l n with
    | false => simp
    | true =>
      cases hu : ups l n with
      | none => simp
      | some o =>
        simp only [if_true, Option.map_some, Option.bind_some, Bool.true_and]
        unfold impl_Log_up.step upsStep atE
        cases hgd : impl_Log_up.good (lastT l n) (rd_T73 l (n : Int)) with
        | false => simp [hgd]
        | true =>
          simp only [hgd, Bool.true_eq_false, if_false, if_true]
          split
          · rfl
          · split <;> rfl
theorem gd_false {l : List En} {i n : Nat} (h : gd l i = false) (hi : i ≤ n) : gd l n = false := by
  induction n with
  | zero => obtain rfl : i = 0 := by omega
            exact h
  | succ n ih =>
    rcases Nat.lt_or_ge i (n + 1) with h1 | h1
    · rw [gd, ih (by omega)]
      rfl
    · obtain rfl : i = n + 1 := by omega
      exact h
theorem ups_none {l : List En} {i n : Nat} (h : ups l i = none) (hi : i ≤ n) : ups l n = none := by
  induction n with
  | zero => obtain rfl : i = 0 := by omega
            exact h
  | succ n ih =>
    rcases Nat.lt_or_ge i (n + 1) with h1 | h1
    · rw [ups, ih (by omega)]
      rfl
    · obtain rfl : i = n + 1 := by omega
      exact h
theorem idxP_none {α : Type} {p : α → Bool} {l : List α} (h : idxP p l < 0) : ∀ x ∈ l, p x = false := by
  have := idxP_nonneg p l
  rw [decide_eq_false (by omega)] at this
  intro x hx
  exact List.any_eq_false.1 this.symm x hx |> (by simpa using ·)
theorem ups_ok {l : List En} {n : Nat} {out : List Int} (h : ups l n = some out) : out.length ≤ n ∧ (∀ x ∈ out, 0 ≤ x ∧ x < (n : Int)) ∧ out.Pairwise (fun a b => (rd_T73 l a).f1 ≠ (rd_T73 l b).f1) := by
  induction n generalizing out with
  | zero =>
    cases h
    simp
  | succ n ih =>
    rw [ups] at h
    obtain ⟨s0, h0, h1⟩ := Option.bind_eq_some_iff.1 h
    obtain ⟨i1, i2, i3⟩ := ih h0
    unfold upsStep at h1
    split at h1
    · cases h1
    · rename_i hne
      split at h1
      · cases h1
        refine ⟨?_, fun x hx => ?_, i3.sublist (List.eraseIdx_sublist ..)⟩
        · have := List.length_eraseIdx_le (l := s0) (i := (atE l n s0).toNat)
          omega
        · have := i2 x (List.mem_of_mem_eraseIdx hx)
          omega
      · rename_i hf
        cases h1
        refine ⟨by simp; omega, fun x hx => ?_, ?_⟩
        · simp only [List.mem_append, List.mem_singleton] at hx
          rcases hx with hx | rfl
          · have := i2 x hx
            omega
          · omega
        · rw [List.pairwise_append]
          refine ⟨i3, by simp, fun a ha b hb => ?_⟩
          simp only [List.mem_singleton] at hb
          subst hb
          have hk : atE l n s0 < 0 := by
            apply Classical.byContradiction
            intro hh
            rw [decide_eq_false hh] at hne
            simp only [Bool.not_eq_true] at hf
            exact hne hf.symm
          have := idxP_none hk a ha
          simpa using this
theorem idxP_take {p : Int → Bool} {out : List Int} {j : Nat} (hj : j < out.length) (hu : ∀ a b (ha : a < out.length) (hb : b < out.length), a < b → p out[a] = true → p out[b] = true → False) : idxP p (out.take (j + 1)) = if p out[j] = true then (j : Int) else idxP p (out.take j) := by
  split
  · rename_i h
    refine idxP_hit (k := j) (y := out[j]) (by rw [List.getElem?_take_of_lt (by omega)]; exact List.getElem?_eq_getElem hj) h (fun a x ha hx => ?_)
    rw [List.getElem?_take_of_lt (by omega)] at hx
    obtain ⟨h1, rfl⟩ := List.getElem?_eq_some_iff.1 hx
    cases hp : p out[a] with
    | false => rfl
    | true => exact (hu a j h1 hj ha hp h).elim
  · rename_i h
    simp only [Bool.not_eq_true] at h
    unfold idxP
    rw [List.take_succ_eq_append_getElem hj, List.findIdx?_append]
    cases e : (out.take j).findIdx? p with
    | some i => simp
    | none => simp [h]
set_option maxHeartbeats 400000 in
theorem specUp_inner {l : List En} {n : Int} {out : List Int} {i : Nat} (hi : i < l.length) (hl : l.length ≤ 60) (ho : out.length ≤ i ∧ (∀ x ∈ out, 0 ≤ x ∧ x < (i : Int)) ∧ out.Pairwise (fun a b => (rd_T73 l a).f1 ≠ (rd_T73 l b).f1)) :
    ∀ (d j K : Nat), j + d = out.length → spec_l07Up.l1 (K + d + 1) l n out (i : Int) (idxP (fun m => (rd_T73 l m).f1 == (rd_T73 l (i : Int)).f1) (out.take j)) (j : Int) = spec_l07Up.l1 (K + 1) l n out (i : Int) (atE l i out) (out.length : Int) := by
  intro d
  induction d with
  | zero =>
    intro j K hj
    obtain rfl : j = out.length := by omega
    rw [List.take_length]
    rfl
  | succ d ih =>
    intro j K hj
    have hjo : j < out.length := by omega
    obtain ⟨h1, h2, h3⟩ := ho
    have hm := h2 out[j] (List.getElem_mem hjo)
    rw [← ih (j + 1) K (by omega), show K + (d + 1) + 1 = (K + d + 1) + 1 by omega]
    conv => lhs; unfold spec_l07Up.l1
    rw [if_pos (by omega), if_pos (by omega), rd_nat hjo, if_pos (by omega), if_pos (by omega), if_pos (by omega), if_pos (by omega), w64 (by omega) (by omega), idxP_take hjo (fun a b ha hb hab pa pb => ?_)]
    · by_cases hq : (rd_T73 l out[j]).f1 = (rd_T73 l (i : Int)).f1
      · rw [if_pos hq, if_pos (by simpa using hq)]
        rfl
      · rw [if_neg hq, if_neg (by simpa using hq)]
        rfl
    · have := List.pairwise_iff_getElem.1 h3 a b ha hb hab
      simp only [beq_iff_eq] at pa pb
      exact this (pa.trans pb.symm)
set_option maxHeartbeats 1000000 in
theorem specUp_outer {l : List En} {n : Nat} (hn : n ≤ l.length) (hl : l.length ≤ 60) : ∀ (d i : Nat) (out : List Int) (K : Nat), i + d = n → ups l i = some out → 70 * (d + 1) ≤ K → spec_l07Up.l0 K l (n : Int) out (i : Int) = some (match ups l n with | some o => (o, true) | none => ([], false)) := by
  intro d
  induction d with
  | zero =>
    intro i out K hi hu hK
    obtain ⟨K, rfl⟩ : ∃ m, K = m + 1 := ⟨K - 1, by omega⟩
    obtain rfl : i = n := by omega
    simp only [spec_l07Up.l0]
    rw [if_neg (by omega), hu]
  | succ d ih =>
    intro i out K hi hu hK
    have ho := ups_ok hu
    obtain ⟨h1, h2, h3⟩ := ho
    obtain ⟨K, rfl⟩ : ∃ m, K = m + out.length + 2 := ⟨K - out.length - 2, by omega⟩
    have hK2 : 70 * (d + 1) ≤ K := by omega
    have hi2 : i + 1 + d = n := by omega
    have hsucc : ((i + 1 : Nat) : Int) = (i : Int) + 1 := by omega
    simp only [spec_l07Up.l0]
    rw [if_pos (by omega)]
    have e := specUp_inner (n := (n : Int)) (l := l) (out := out) (i := i) (by omega) hl ⟨h1, h2, h3⟩ out.length 0 K (by omega)
    rw [show idxP (fun m => (rd_T73 l m).f1 == (rd_T73 l (i : Int)).f1) (out.take 0) = -1 from rfl] at e
    rw [show ((0 : Nat) : Int) = 0 from rfl] at e
    rw [e]
    have hlt := impl_Log_up.idx_lt (fun m => (rd_T73 l m).f1 == (rd_T73 l (i : Int)).f1) out
    have hs : ups l (i + 1) = upsStep l i out := by rw [ups, hu]; rfl
    have hat : idxP (fun m => (rd_T73 l m).f1 == (rd_T73 l (i : Int)).f1) out = atE l i out := rfl
    rw [hat] at hlt
    conv => lhs; unfold spec_l07Up.l1
    rw [if_neg (by omega), if_pos (by omega), if_pos (by omega)]
    unfold upsStep at hs
    by_cases hneg : atE l i out < 0
    · rw [decide_eq_true hneg] at hs
      rw [show decide (atE l i out ≥ 0) = false from decide_eq_false (by omega)]
      cases hf : (rd_T73 l (i : Int)).f2 with
      | true =>
        rw [hf, if_pos rfl] at hs
        rw [if_pos (by rfl), ups_none hs (by omega)]
      | false =>
        rw [hf, if_neg (by simp), if_neg (by simp)] at hs
        rw [if_neg (by simp), if_pos hneg, if_pos (by omega), w64 (by omega) (by omega)]
        have e2 := ih (i + 1) _ K hi2 hs hK2
        rw [hsucc] at e2
        rw [e2]
    · rw [decide_eq_false hneg] at hs
      rw [show decide (atE l i out ≥ 0) = true from decide_eq_true (by omega)]
      cases hf : (rd_T73 l (i : Int)).f2 with
      | false =>
        rw [hf, if_pos rfl] at hs
        rw [if_pos (by rfl), ups_none hs (by omega)]
      | true =>
        rw [hf, if_neg (by simp), if_pos rfl] at hs
        rw [if_neg (by simp), if_neg hneg]
        simp only [Option.bind_some, List.nil_append]
        obtain ⟨q, hq⟩ : ∃ q : Nat, atE l i out = (q : Int) := ⟨(atE l i out).toNat, by omega⟩
        rw [hq] at hs hlt ⊢
        rw [if_pos (by omega), if_pos (by omega), if_pos (by simp; omega), if_pos (by rw [w64 (by omega) (by omega)]; omega), w64 (n := (q : Int) + 1) (by omega) (by omega), if_pos (by omega), if_pos (by simp; omega), w64 (n := (i : Int) + 1) (by omega) (by omega)]
        rw [Int.toNat_natCast, show ((q : Int) + 1).toNat = q + 1 by omega, ← List.eraseIdx_eq_take_drop_succ]
        have e2 := ih (i + 1) (out.eraseIdx q) K hi2 (by rw [hs, Int.toNat_natCast]) hK2
        rw [hsucc] at e2
        rw [e2]
theorem specUp_eq {l : List En} {n K : Nat} (hn : n ≤ l.length) (hl : l.length ≤ 60) (hK : 5000 < K) : spec_l07Up.f K l (n : Int) = some (match ups l n with | some o => (o, true) | none => ([], false)) := by
  unfold spec_l07Up.f
  exact specUp_outer hn hl n 0 [] K (by omega) rfl (by omega)
def validG (l : List En) : Bool := decide (l.length ≤ 60) && gd l l.length && (ups l l.length).isSome
theorem implValid_log {l : List En} (hl : l.length ≤ 1048576) : impl_ValidLog.f l = some (validG l) := by
  unfold impl_ValidLog.f impl_Log_up.f validG
  rw [if_pos hl, to_eq]
  cases hg : gd l l.length with
  | false => simp
  | true =>
    cases hu : ups l l.length with
    | none => simp
    | some o => simp; omega
theorem in_log (n lo hi : Int) : spec_l00In.f n lo hi = some (decide (lo ≤ n) && decide (n ≤ hi)) := by
  unfold spec_l00In.f
  by_cases h : lo ≤ n
  · rw [if_pos h, decide_eq_true h]
    rfl
  · rw [if_neg h, decide_eq_false h]
    rfl
theorem specOk_log {k : Nat} {l : List En} (hk : 6000 < k) : spec_l07Ok.f k l = some (validG l) := by
  unfold spec_l07Ok.f
  by_cases hl : l.length ≤ 60
  · rw [if_neg (by omega)]
    obtain ⟨r, hr, h⟩ := loop_inv2 (fun k (s : Int × Int) => spec_l07Ok.l0 k l s.1 s.2) l.length 5001 (fun i s => s.2 = (i : Int) ∧ s.1 = lastT l i ∧ gd l i = true) (fun r => r = validG l)
      (fun k i s hi hk ⟨h1, h2, h3⟩ => by
        obtain ⟨a, x⟩ := s
        simp only at h1 h2 h3
        subst h1 h2
        simp only [spec_l07Ok.l0]
        rw [if_pos (by omega), if_pos (by omega), in_log]
        simp only [Option.bind_some]
        have hg : gd l (i + 1) = impl_Log_up.good (lastT l i) (rd_T73 l (i : Int)) := by rw [gd, h3]; rfl
        unfold impl_Log_up.good at hg
        have hbad : gd l (i + 1) = false → false = validG l := fun h => by
          unfold validG
          rw [gd_false h (by omega)]
          simp
        cases hb1 : (decide (lastT l i ≤ (rd_T73 l (i : Int)).f0) && decide ((rd_T73 l (i : Int)).f0 ≤ 100000)) with
        | false =>
          rw [hb1] at hg
          exact .inr ⟨false, hbad hg, by simp⟩
        | true =>
          rw [hb1] at hg
          rw [if_pos rfl, in_log]
          simp only [Option.bind_some]
          cases hb2 : (decide (0 ≤ (rd_T73 l (i : Int)).f1) && decide ((rd_T73 l (i : Int)).f1 ≤ 9999)) with
          | false =>
            rw [hb2] at hg
            exact .inr ⟨false, hbad hg, by simp⟩
          | true =>
            rw [hb2] at hg
            refine .inl ⟨((rd_T73 l (i : Int)).f0, ((i + 1 : Nat) : Int)), ⟨rfl, rfl, hg⟩, ?_⟩
            rw [if_pos rfl, w64 (by omega) (by omega)]
            rfl)
      (fun k s hk ⟨h1, h2, h3⟩ => by
        obtain ⟨a, x⟩ := s
        simp only at h1 h2 h3
        subst h1 h2
        refine ⟨validG l, rfl, ?_⟩
        simp only [spec_l07Ok.l0]
        rw [if_neg (by omega), specUp_eq (Nat.le_refl _) hl (by omega)]
        unfold validG
        rw [h3]
        cases ups l l.length <;> simp [hl]) k (0, 0) ⟨rfl, rfl, rfl⟩ (by omega)
    subst hr
    exact h
  · rw [if_pos (by omega)]
    unfold validG
    simp [hl]
end Go.Proofs.Ytidkniacmcbgiaa.G.Pure
end

section
namespace Go.Proofs.Ytidkniacmcbgiaa.G.Pure
open Go.RowKit Go.Proofs.Ytidkniacmcbgiaa.G Go.Proofs.YtidkniacmcbgiaaW.PrintWords Go.Proofs.YtidkniacmcbgiaaW.PrintLast Go.Proofs.YtidkniacmcbgiaaW.PrintMore
set_option linter.unusedVariables false
set_option linter.unusedSimpArgs false
theorem szLog_big {l : List (S75)} (h : l.length ≤ 9223372036854775807) (hL : ¬ l.length ≤ 1048576) : laws_szLog.f l 1048576 = some (-1) := by
 rw [szLog_eq _ _ (by omega) (by omega) h,if_pos (by omega)]
end Go.Proofs.Ytidkniacmcbgiaa.G.Pure
end

section
namespace Go.Proofs.Ytidkniacmcbgiaa.G.Pure
open Go.RowKit Go.Proofs.Ytidkniacmcbgiaa.G Go.Proofs.YtidkniacmcbgiaaW.PrintWords Go.Proofs.YtidkniacmcbgiaaW.PrintLast Go.Proofs.YtidkniacmcbgiaaW.PrintMore
set_option linter.unusedVariables false
set_option linter.unusedSimpArgs false
theorem markLog_from (k : Nat) (a : List En) (m0 : Int) (hl : a.length ≤ 1048576) (hk : a.length < k) (h0 : 0 ≤ m0) (h1 : m0 ≤ 4000000000000000000) : ∃ l m,laws_markLog.f k a m0 = some (m,l) ∧ 0 ≤ m ∧ m ≤ m0 + 4000000 := by
 obtain ⟨r,⟨h1,h2⟩,h⟩ := loop_inv (fun k (s : List En × Int × Int) => laws_markLog.l0 k s.1 s.2.1 s.2.2) a.length
  (fun i s => s.2.2 = (i : Int) ∧ s.2.1 = m0 + 3 * (i : Int) ∧ s.1.length = a.length)
  (fun r => r.1 = m0 + 3 * (a.length : Int) ∧ True)
  (fun k i s hi ⟨h1,h2,h3⟩ => by
   obtain ⟨acc,m,x⟩ := s
   simp only at h1 h2 h3
   subst h1 h2
   have hia : i < acc.length := by omega
   refine .inl ⟨(acc.set i ⟨m0 + 3 * (i : Int),m0 + 3 * (i : Int) + 1,Int.tmod (m0 + 3 * (i : Int) + 1 + 1) 3 == 0⟩,m0 + 3 * ((i + 1 : Nat) : Int),((i + 1 : Nat) : Int)),⟨rfl,rfl,by simpa using h3⟩,?_⟩
   simp only [laws_markLog.l0]
   rw [if_pos (by omega),if_pos (by omega)]
   simp only [Option.bind_some,Int.toNat_natCast]
   rw [w64 (n := m0 + 3 * (i : Int) + 1) (by omega) (by omega),w64 (n := m0 + 3 * (i : Int) + 1 + 1) (by omega) (by omega),w64 (n := m0 + 3 * (i : Int) + 1 + 1 + 1) (by omega) (by omega),w64 (n := (i : Int) + 1) (by omega) (by omega)]
   simp only [rd_set_Entry,hia,List.set_set,List.length_set]
   rw [show m0 + 3 * (i : Int) + 1 + 1 + 1 = m0 + 3 * ((i + 1 : Nat) : Int) by omega]
   rfl)
  (fun k s ⟨h1,h2,h3⟩ => by
   obtain ⟨acc,m,x⟩ := s
   simp only at h1 h2 h3
   subst h1 h2
   refine ⟨(m0 + 3 * (a.length : Int),acc),⟨rfl,trivial⟩,?_⟩
   simp only [laws_markLog.l0]
   rw [if_neg (by omega)]) k (a,m0,0) ⟨rfl,by simp,rfl⟩ hk
 obtain ⟨m,l⟩ := r
 simp only at h1
 exact ⟨l,m,h,by omega,by omega⟩
end Go.Proofs.Ytidkniacmcbgiaa.G.Pure
end

section
namespace Go.Proofs.Ytidkniacmcbgiaa.G.Pure
open Go.RowKit Go.Proofs.Ytidkniacmcbgiaa.G Go.Proofs.YtidkniacmcbgiaaW.PrintWords Go.Proofs.YtidkniacmcbgiaaW.PrintLast Go.Proofs.YtidkniacmcbgiaaW.PrintMore
set_option linter.unusedVariables false
set_option linter.unusedSimpArgs false
abbrev St := S100
theorem eqStep_self (a   : St) : laws_eqStep.f a.f0 a.f1 a.f0 a.f1 = some true := by
 simp [laws_eqStep.f]
theorem eqStepS_self (k : Nat) (a : List St) (hl : a.length ≤ 1048576) (hk : a.length < k) : laws_eqStepS.f k a a = some true := by
 unfold laws_eqStepS.f
 rw [if_pos rfl]
 obtain ⟨r,hr,h⟩ := loop_inv (fun k (s : Int) => laws_eqStepS.l0 k a a s) a.length (fun i s => s = (i : Int)) (fun r => r = true)
  (fun k i s hi h1 => by
   subst h1
   refine .inl ⟨((i + 1 : Nat) : Int),rfl,?_⟩
   simp only [laws_eqStepS.l0]
   rw [if_pos (by omega),if_pos (by omega),if_pos (by omega),eqStep_self]
   simp only [Option.bind_some,if_true]
   rw [w64 (by omega) (by omega)]
   rfl)
  (fun k s h1 => by
   subst h1
   refine ⟨true,rfl,?_⟩
   simp only [laws_eqStepS.l0]
   rw [if_neg (by omega)]) k 0 rfl hk
 subst hr
 exact h
theorem rd_impl_Step {l : List St} {i : Nat} (h : i < l.length) : rd_T100 l (i : Int) = l[i] := by
 simp [rd_T100,List.getD_eq_getElem?_getD,List.getElem?_eq_getElem h]
theorem rd_set_Step {l : List St} {i : Nat} (h : i < l.length) (v : St) : rd_T100 (l.set i v) (i : Int) = v := by
 rw [rd_impl_Step (by simpa using h)]
 simp
end Go.Proofs.Ytidkniacmcbgiaa.G.Pure
end

section
namespace Go.Proofs.Ytidkniacmcbgiaa.G.Pure
open Go.RowKit Go.Proofs.Ytidkniacmcbgiaa.G Go.Proofs.YtidkniacmcbgiaaW.PrintWords Go.Proofs.YtidkniacmcbgiaaW.PrintLast Go.Proofs.YtidkniacmcbgiaaW.PrintMore
set_option linter.unusedVariables false
set_option linter.unusedSimpArgs false
def markP (i : Nat) : St := ⟨1 + 2 * (i : Int),1 + 2 * (i : Int) + 1⟩
theorem markStepS_held (k : Nat) (a : List St) (hl : a.length ≤ 1048576) (hk : a.length < k) : ∃ l m,laws_markStepS.f k a 1 = some (m,l) ∧ (∀ k',a.length < k' → laws_heldStepS.f k' l 1 = some m) ∧ 0 ≤ m := by
 obtain ⟨r,⟨h1,h2,h3⟩,h⟩ := loop_inv (fun k (s : List St × Int × Int) => laws_markStepS.l0 k s.1 s.2.1 s.2.2) a.length
  (fun i s => s.2.2 = (i : Int) ∧ s.2.1 = 1 + 2 * (i : Int) ∧ s.1.length = a.length ∧ ∀ j (h : j < s.1.length),j < i → s.1[j] = markP j)
  (fun r => r.1 = 1 + 2 * (a.length : Int) ∧ r.2.length = a.length ∧ ∀ j (h : j < r.2.length),r.2[j] = markP j)
  (fun k i s hi ⟨h1,h2,h3,h4⟩ => by
   obtain ⟨acc,m,x⟩ := s
   simp only at h1 h2 h3 h4
   subst h1 h2
   refine .inl ⟨(acc.set i (markP i),1 + 2 * ((i + 1 : Nat) : Int),((i + 1 : Nat) : Int)),⟨rfl,rfl,by simpa using h3,fun j hj hji => ?_⟩,?_⟩
   ·simp only [List.getElem_set]
    split
    ·rename_i e;subst e;rfl
    ·simp only [List.length_set] at hj
     exact h4 j hj (by omega)
   ·have hia : i < acc.length := by omega
    simp only [laws_markStepS.l0]
    rw [if_pos (by omega),if_pos (by omega)]
    simp only [Option.bind_some,Int.toNat_natCast]
    rw [w64 (n := 1 + 2 * (i : Int) + 1) (by omega) (by omega),w64 (n := 1 + 2 * (i : Int) + 1 + 1) (by omega) (by omega),w64 (n := (i : Int) + 1) (by omega) (by omega)]
    simp only [rd_set_Step,hia,List.set_set,List.length_set]
    rw [show 1 + 2 * (i : Int) + 1 + 1 = 1 + 2 * ((i + 1 : Nat) : Int) by omega]
    rfl)
  (fun k s ⟨h1,h2,h3,h4⟩ => by
   obtain ⟨acc,m,x⟩ := s
   simp only at h1 h2 h3 h4
   subst h1 h2
   refine ⟨(1 + 2 * (a.length : Int),acc),⟨rfl,h3,fun j hj => h4 j hj (by rw [← h3];exact hj)⟩,?_⟩
   simp only [laws_markStepS.l0]
   rw [if_neg (by omega)]) k (a,1,0) ⟨rfl,rfl,rfl,fun j _ h => absurd h (Nat.not_lt_zero _)⟩ hk
 obtain ⟨m,l⟩ := r
 simp only at h1 h2 h3
 refine ⟨l,m,h,fun k' hk' => ?_,by omega⟩
 obtain ⟨r,hr,h'⟩ := loop_inv (fun k (s : Int × Int) => laws_heldStepS.l0 k l s.1 s.2) l.length (fun i s => s.2 = (i : Int) ∧ s.1 = 1 + 2 * (i : Int)) (fun r => r = m)
  (fun k i s hi ⟨g1,g2⟩ => by
   obtain ⟨m',x⟩ := s
   simp only at g1 g2
   subst g1 g2
   refine .inl ⟨(1 + 2 * ((i + 1 : Nat) : Int),((i + 1 : Nat) : Int)),⟨rfl,rfl⟩,?_⟩
   simp only [laws_heldStepS.l0]
   rw [w64 (n := 1 + 2 * (i : Int) + 1) (by omega) (by omega),w64 (n := 1 + 2 * (i : Int) + 1 + 1) (by omega) (by omega),w64 (n := (i : Int) + 1) (by omega) (by omega)]
   rw [if_pos (by omega),if_pos (by omega),rd_impl_Step hi,h3 i hi,if_pos (show (markP i).f0 = 1 + 2 * (i : Int) from rfl),if_pos (show (markP i).f1 = 1 + 2 * (i : Int) + 1 from rfl),show 1 + 2 * (i : Int) + 1 + 1 = 1 + 2 * ((i + 1 : Nat) : Int) by omega]
   rfl)
  (fun k s ⟨g1,g2⟩ => by
   obtain ⟨m',x⟩ := s
   simp only at g1 g2
   subst g1 g2
   refine ⟨m,rfl,?_⟩
   simp only [laws_heldStepS.l0]
   rw [if_neg (by omega),h1,h2]) k' (1,0) ⟨rfl,rfl⟩ (by omega)
 subst hr
 exact h'
end Go.Proofs.Ytidkniacmcbgiaa.G.Pure
end

section
namespace Go.Proofs.Ytidkniacmcbgiaa.G.Pure
open Go.RowKit Go.Proofs.Ytidkniacmcbgiaa.G Go.Proofs.YtidkniacmcbgiaaW.PrintWords Go.Proofs.YtidkniacmcbgiaaW.PrintLast Go.Proofs.YtidkniacmcbgiaaW.PrintMore
set_option linter.unusedVariables false
set_option linter.unusedSimpArgs false
def fitC (e f : En) : Bool := decide (e.f2 = f.f2)
def costC (e f : En) : Int := if e.f1 = f.f1 then 0 else 1
theorem costC_b (e f : En) : 0 ≤ costC e f ∧ costC e f ≤ 1 := by
 unfold costC
 split <;> omega
theorem stepFaults_eq (e f : En) : impl_stepFaults.f e.f0 e.f1 e.f2 f.f0 f.f1 f.f2 = some (if fitC e f = true then (costC e f,true) else (1,false)) := by
 unfold impl_stepFaults.f impl_Entry_agree.f fitC costC
 by_cases h : e.f1 = f.f1
 ·rw [if_pos h,if_pos h]
  cases e.f2 <;> cases f.f2 <;> rfl
 ·rw [if_neg h,if_neg h]
  cases e.f2 <;> cases f.f2 <;> rfl
theorem cost_eq (e f : En) : spec_l07Cost.f e.f0 e.f1 e.f2 f.f0 f.f1 f.f2 = some (if fitC e f = true then costC e f else -1) := by
 unfold spec_l07Cost.f fitC costC
 by_cases h : e.f1 = f.f1
 ·rw [if_pos h,if_pos h]
  cases e.f2 <;> cases f.f2 <;> rfl
 ·rw [if_neg h,if_neg h]
  cases e.f2 <;> cases f.f2 <;> rfl
end Go.Proofs.Ytidkniacmcbgiaa.G.Pure
end

section
namespace Go.Proofs.Ytidkniacmcbgiaa.G.Pure
open Go.RowKit Go.Proofs.Ytidkniacmcbgiaa.G Go.Proofs.YtidkniacmcbgiaaW.PrintWords Go.Proofs.YtidkniacmcbgiaaW.PrintLast Go.Proofs.YtidkniacmcbgiaaW.PrintMore
set_option linter.unusedVariables false
set_option linter.unusedSimpArgs false
theorem loop_acc {β γ : Type} (L : Nat → List β → Int → Option γ) (n : Nat) (g : Nat → List β) (R : List β → γ) (hb : ∀ i,i < n → (g i).length ≤ 1)
  (hs : ∀ k i acc,i < n → acc.length ≤ i → L (k + 1) acc (i : Int) = L k (acc ++ g i) ((i + 1 : Nat) : Int))
  (he : ∀ k acc,acc.length ≤ n → L (k + 1) acc (n : Int) = some (R acc)) : ∀ k,n < k → L k [] 0 = some (R ((List.range n).flatMap g)) := by
 intro k hk
 obtain ⟨r,hr,h⟩ := loop_inv (fun k (s : List β × Int) => L k s.1 s.2) n (fun i s => s.2 = (i : Int) ∧ s.1 = (List.range i).flatMap g ∧ s.1.length ≤ i) (fun r => r = R ((List.range n).flatMap g))
  (fun k i s hi ⟨h1,h2,h3⟩ => by
   obtain ⟨acc,x⟩ := s
   simp only at h1 h2 h3
   subst h1
   refine .inl ⟨(acc ++ g i,((i + 1 : Nat) : Int)),⟨rfl,?_,?_⟩,hs k i acc hi h3⟩
   ·rw [h2,List.range_succ,List.flatMap_append]
    simp
   ·have := hb i hi
    simp only [List.length_append]
    omega)
  (fun k s ⟨h1,h2,h3⟩ => by
   obtain ⟨acc,x⟩ := s
   simp only at h1 h2 h3
   subst h1
   exact ⟨_,by rw [h2],he k acc h3⟩) k ([],0) ⟨rfl,rfl,Nat.zero_le _⟩ hk
 subst hr
 exact h
end Go.Proofs.Ytidkniacmcbgiaa.G.Pure
end

section
namespace Go.Proofs.Ytidkniacmcbgiaa.G.Pure
open Go.RowKit Go.Proofs.Ytidkniacmcbgiaa.G Go.Proofs.YtidkniacmcbgiaaW.PrintWords Go.Proofs.YtidkniacmcbgiaaW.PrintLast Go.Proofs.YtidkniacmcbgiaaW.PrintMore
set_option linter.unusedVariables false
set_option linter.unusedSimpArgs false
def rowOf (n : Nat) (V : Nat → Int) : List Int := (List.range (n + 1)).map V
def tabOf (m n : Nat) (V : Nat → Nat → Int) : List (List Int) := (List.range (m + 1)).map fun i => rowOf n (V i)
def RowSt (n : Nat) (V : Nat → Int) (q : Nat) (r : List Int) : Prop := r.length = n + 1 ∧ ∀ k,q ≤ k → k ≤ n → r[k]? = some (V k)
def TabSt (m n : Nat) (V : Nat → Nat → Int) (P : List Int → Prop) (i q : Nat) (T : List (List Int)) : Prop :=
 T.length = m + 1 ∧ (∀ i',i < i' → i' ≤ m → RowSt n (V i') 0 (T.getD i' [])) ∧ RowSt n (V i) q (T.getD i []) ∧ ∀ i',i' < i → P (T.getD i' [])
theorem rowSt_eq {n : Nat} {V : Nat → Int} {r : List Int} (h : RowSt n V 0 r) : r = rowOf n V := by
 obtain ⟨h1,h2⟩ := h
 apply List.ext_getElem?
 intro k
 unfold rowOf
 rcases Nat.lt_or_ge k (n + 1) with hk | hk
 ·rw [h2 k (Nat.zero_le _) (by omega)]
  simp [List.getElem?_range hk]
 ·rw [List.getElem?_eq_none (by omega),List.getElem?_eq_none (by simp;omega)]
theorem rowSt_get {n : Nat} {V : Nat → Int} {q : Nat} {r : List Int} (h : RowSt n V q r) {k : Nat} (hq : q ≤ k) (hk : k ≤ n) : rd r (k : Int) = V k := by
 have := h.2 k hq hk
 simp [rd,List.getD_eq_getElem?_getD,this]
theorem rowSt_set {n : Nat} {V : Nat → Int} {q : Nat} {r : List Int} (h : RowSt n V (q + 1) r) (hq : q ≤ n) : RowSt n V q (r.set q (V q)) := by
 refine ⟨by rw [List.length_set];exact h.1,fun k hk hn => ?_⟩
 by_cases e : q = k
 ·subst e
  rw [List.getElem?_set_self (by rw [h.1];omega)]
 ·rw [List.getElem?_set_ne e]
  exact h.2 k (by omega) hn
theorem getD_set_self {T : List (List Int)} {i : Nat} {r : List Int} (h : i < T.length) : (T.set i r).getD i [] = r := by
 rw [List.getD_eq_getElem?_getD,List.getElem?_set_self h]
 rfl
theorem getD_set_ne {T : List (List Int)} {i j : Nat} {r : List Int} (h : i ≠ j) : (T.set i r).getD j [] = T.getD j [] := by
 rw [List.getD_eq_getElem?_getD,List.getElem?_set_ne h,List.getD_eq_getElem?_getD]
theorem tabSt_set {m n : Nat} {V : Nat → Nat → Int} {P : List Int → Prop} {i q : Nat} {T : List (List Int)} (h : TabSt m n V P i (q + 1) T) (hi : i ≤ m) (hq : q ≤ n) : TabSt m n V P i q (T.set i ((T.getD i []).set q (V i q))) := by
 obtain ⟨h1,h2,h3,h4⟩ := h
 refine ⟨by rw [List.length_set];exact h1,fun i' hi' hm => ?_,?_,fun i' hi' => ?_⟩
 ·rw [getD_set_ne (by omega)]
  exact h2 i' hi' hm
 ·rw [getD_set_self (by omega)]
  exact rowSt_set h3 hq
 ·rw [getD_set_ne (by omega)]
  exact h4 i' hi'
theorem tab_eq {m n : Nat} {V : Nat → Nat → Int} {T : List (List Int)} (h1 : T.length = m + 1) (h2 : ∀ i',i' ≤ m → RowSt n (V i') 0 (T.getD i' [])) : T = tabOf m n V := by
 apply List.ext_getElem?
 intro i
 unfold tabOf
 rcases Nat.lt_or_ge i (m + 1) with hi | hi
 ·have := rowSt_eq (h2 i (by omega))
  rw [List.getElem?_eq_getElem (by omega)]
  rw [List.getD_eq_getElem?_getD,List.getElem?_eq_getElem (by omega)] at this
  simp only [Option.getD_some] at this
  rw [this]
  simp [List.getElem?_range hi]
 ·rw [List.getElem?_eq_none (by omega),List.getElem?_eq_none (by simp;omega)]
theorem tab_row {m n : Nat} {V : Nat → Nat → Int} {i : Nat} (hi : i ≤ m) : rd_L6 (tabOf m n V) (i : Int) = rowOf n (V i) := by
 show (tabOf m n V).getD i [] = _
 unfold tabOf
 rw [List.getD_eq_getElem?_getD,List.getElem?_map,List.getElem?_range (by omega)]
 rfl
theorem row_at {n : Nat} {V : Nat → Int} {k : Nat} (hk : k ≤ n) : rd (rowOf n V) (k : Int) = V k := by
 unfold rowOf
 simp [rd,List.getD_eq_getElem?_getD,List.getElem?_range (by omega : k < n + 1)]
theorem row_len {n : Nat} {V : Nat → Int} : (rowOf n V).length = n + 1 := by simp [rowOf]
theorem tab_len {m n : Nat} {V : Nat → Nat → Int} : (tabOf m n V).length = m + 1 := by simp [tabOf]
theorem tab_loop {γ : Type} (m n c : Nat) (V : Nat → Nat → Int) (P : List Int → Prop) (L0 : Nat → List (List Int) → Int → Option γ) (L1 : Nat → List (List Int) → Int → Int → Option γ) (R : List (List Int) → γ) (hm : m ≤ 60) (hn : n ≤ 60) (hc : c ≤ 20)
  (init : ∀ K T i,i ≤ m → T.length = m + 1 → P (T.getD i []) → ∃ r : List Int,r.length = n + 1 ∧ L0 (K + 1) T (i : Int) = L1 K (T.set i r) (i : Int) (n : Int))
  (step : ∀ K T i q,i ≤ m → q ≤ n → TabSt m n V P i (q + 1) T → L1 (K + c) T (i : Int) (q : Int) = L1 K (T.set i ((T.getD i []).set q (V i q))) (i : Int) ((q : Int) - 1))
  (out : ∀ K T i,i ≤ m → L1 (K + 1) T (i : Int) (-1) = L0 K T ((i : Int) - 1))
  (fin : ∀ K T,L0 (K + 1) T (-1) = some (R T)) (T0 : List (List Int)) (h0 : T0.length = m + 1) (hP : ∀ i,i ≤ m → P (T0.getD i [])) :
  ∀ K,100000 ≤ K → L0 K T0 (m : Int) = some (R (tabOf m n V)) := by
 have inner : ∀ q K T i,i ≤ m → q ≤ n + 1 → TabSt m n V P i q T → ∃ T',TabSt m n V P i 0 T' ∧ L1 (K + q * c) T (i : Int) ((q : Int) - 1) = L1 K T' (i : Int) (-1) := by
  intro q
  induction q with
  | zero => exact fun K T i hi hq h => ⟨T,h,by simp⟩
  | succ q ih =>
   intro K T i hi hq h
   obtain ⟨T',h1,h2⟩ := ih K _ i hi (by omega) (tabSt_set h hi (by omega))
   refine ⟨T',h1,?_⟩
   rw [← h2,← step (K + q * c) T i q hi (by omega) h,Nat.succ_mul,Nat.add_assoc]
   congr 1
   omega
 have outer : ∀ j K T,j ≤ m + 1 → T.length = m + 1 → (∀ i',j ≤ i' → i' ≤ m → RowSt n (V i') 0 (T.getD i' [])) → (∀ i',i' < j → P (T.getD i' [])) → L0 (K + 1 + j * ((n + 1) * c + 2)) T ((j : Int) - 1) = some (R (tabOf m n V)) := by
  intro j
  induction j with
  | zero =>
   intro K T hj hl hr hp
   rw [show ((0 : Nat) : Int) - 1 = -1 from rfl,Nat.zero_mul,Nat.add_zero,fin,tab_eq hl (fun i' hi' => hr i' (Nat.zero_le _) hi')]
  | succ j ih =>
   intro K T hj hl hr hp
   obtain ⟨r,hr1,hr2⟩ := init (K + 1 + j * ((n + 1) * c + 2) + 1 + (n + 1) * c) T j (by omega) hl (hp j (by omega))
   have hst : TabSt m n V P j (n + 1) (T.set j r) := by
    refine ⟨by rw [List.length_set];exact hl,fun i' hi' hm' => ?_,?_,fun i' hi' => ?_⟩
    ·rw [getD_set_ne (by omega)]
     exact hr i' (by omega) hm'
    ·rw [getD_set_self (by omega)]
     exact ⟨hr1,fun k hk hn => by omega⟩
    ·rw [getD_set_ne (by omega)]
     exact hp i' (by omega)
   obtain ⟨T',h1,h2⟩ := inner (n + 1) (K + 1 + j * ((n + 1) * c + 2) + 1) _ j (by omega) (Nat.le_refl _) hst
   rw [show ((n + 1 : Nat) : Int) - 1 = (n : Int) by omega] at h2
   rw [show K + 1 + (j + 1) * ((n + 1) * c + 2) = K + 1 + j * ((n + 1) * c + 2) + 1 + (n + 1) * c + 1 by rw [Nat.succ_mul];omega,show ((j + 1 : Nat) : Int) - 1 = (j : Int) by omega,hr2,h2,out _ _ _ (by omega)]
   refine ih K T' (by omega) h1.1 (fun i' hi' hm' => ?_) (fun i' hi' => h1.2.2.2 i' hi')
   rcases Nat.eq_or_lt_of_le hi' with e | e
   ·subst e
    exact h1.2.2.1
   ·exact h1.2.1 i' e hm'
 intro K hK
 have hb : (m + 1) * ((n + 1) * c + 2) ≤ 61 * (61 * 20 + 2) := Nat.mul_le_mul (by omega) (Nat.add_le_add_right (Nat.mul_le_mul (by omega) hc) _)
 have e := outer (m + 1) (K - 1 - (m + 1) * ((n + 1) * c + 2)) T0 (Nat.le_refl _) h0 (fun i' h1 h2 => by omega) (fun i' hi' => hP i' (by omega))
 rw [show K - 1 - (m + 1) * ((n + 1) * c + 2) + 1 + (m + 1) * ((n + 1) * c + 2) = K by omega,show ((m + 1 : Nat) : Int) - 1 = (m : Int) by omega] at e
 exact e
end Go.Proofs.Ytidkniacmcbgiaa.G.Pure
end

section
namespace Go.Proofs.Ytidkniacmcbgiaa.G.Pure
open Go.RowKit Go.Proofs.Ytidkniacmcbgiaa.G Go.Proofs.YtidkniacmcbgiaaW.PrintWords Go.Proofs.YtidkniacmcbgiaaW.PrintLast Go.Proofs.YtidkniacmcbgiaaW.PrintMore
set_option linter.unusedVariables false
set_option linter.unusedSimpArgs false
theorem valid_parts {l : List En} (h : validG l = true) : l.length ≤ 60 ∧ gd l l.length = true ∧ ∃ o,ups l l.length = some o := by
 unfold validG at h
 simp only [Bool.and_eq_true,decide_eq_true_eq] at h
 exact ⟨h.1.1,h.1.2,Option.isSome_iff_exists.1 h.2⟩
end Go.Proofs.Ytidkniacmcbgiaa.G.Pure
end

section
namespace Go.Proofs.Ytidkniacmcbgiaa.G.Pure
open Go.RowKit Go.Proofs.Ytidkniacmcbgiaa.G Go.Proofs.YtidkniacmcbgiaaW.PrintWords Go.Proofs.YtidkniacmcbgiaaW.PrintLast Go.Proofs.YtidkniacmcbgiaaW.PrintMore
set_option linter.unusedVariables false
set_option linter.unusedSimpArgs false
def costW (a b : List En) : Nat → Nat → Int
 | 0,q => 2 * (q : Int)
 | p + 1,0 => (p : Int) + 1
 | p + 1,q + 1 =>
  if fitC (rd_T73 a ((a.length - (p + 1) : Nat) : Int)) (rd_T73 b ((b.length - (q + 1) : Nat) : Int)) = true then mn (mn (costW a b p (q + 1) + 1) (costW a b (p + 1) q + 2)) (costW a b p q + costC (rd_T73 a ((a.length - (p + 1) : Nat) : Int)) (rd_T73 b ((b.length - (q + 1) : Nat) : Int)))
  else mn (costW a b p (q + 1) + 1) (costW a b (p + 1) q + 2)
def costV (a b : List En) (i k : Nat) : Int := costW a b (a.length - i) (b.length - k)
theorem mn_le (x y : Int) : mn x y ≤ x ∧ mn x y ≤ y ∧ (mn x y = x ∨ mn x y = y) := by
 unfold mn
 split <;> refine ⟨?_,?_,?_⟩ <;> first | omega | exact .inl rfl | exact .inr rfl
theorem costW_b (a b : List En) : ∀ p q,0 ≤ costW a b p q ∧ costW a b p q ≤ (p : Int) + 2 * (q : Int) := by
 intro p
 induction p with
 | zero =>
  intro q
  rw [costW]
  omega
 | succ p ih =>
  intro q
  induction q with
  | zero =>
   rw [costW]
   omega
  | succ q ihq =>
   have h1 := ih (q + 1)
   have h2 := ih q
   have h3 := costC_b (rd_T73 a ((a.length - (p + 1) : Nat) : Int)) (rd_T73 b ((b.length - (q + 1) : Nat) : Int))
   rw [costW]
   have m1 := mn_le (costW a b p (q + 1) + 1) (costW a b (p + 1) q + 2)
   have m2 := mn_le (mn (costW a b p (q + 1) + 1) (costW a b (p + 1) q + 2)) (costW a b p q + costC (rd_T73 a ((a.length - (p + 1) : Nat) : Int)) (rd_T73 b ((b.length - (q + 1) : Nat) : Int)))
   split <;> omega
theorem costV_b {a b : List En} (ha : a.length ≤ 60) (hb : b.length ≤ 60) (i k : Nat) : 0 ≤ costV a b i k ∧ costV a b i k ≤ 180 := by
 have := costW_b a b (a.length - i) (b.length - k)
 unfold costV
 omega
theorem costV_end1 {a b : List En} {k : Nat} (hk : k ≤ b.length) : costV a b a.length k = 2 * ((b.length : Int) - (k : Int)) := by
 unfold costV
 rw [Nat.sub_self,costW]
 omega
theorem costV_end2 {a b : List En} {i : Nat} (hi : i < a.length) : costV a b i b.length = (a.length : Int) - (i : Int) := by
 unfold costV
 obtain ⟨p,hp⟩ : ∃ p,a.length - i = p + 1 := ⟨a.length - i - 1,by omega⟩
 rw [Nat.sub_self,hp,costW]
 omega
theorem costV_in {a b : List En} {i k : Nat} (hi : i < a.length) (hk : k < b.length) : costV a b i k =
  if fitC (rd_T73 a (i : Int)) (rd_T73 b (k : Int)) = true then mn (mn (costV a b (i + 1) k + 1) (costV a b i (k + 1) + 2)) (costV a b (i + 1) (k + 1) + costC (rd_T73 a (i : Int)) (rd_T73 b (k : Int)))
  else mn (costV a b (i + 1) k + 1) (costV a b i (k + 1) + 2) := by
 unfold costV
 obtain ⟨p,hp⟩ : ∃ p,a.length - i = p + 1 := ⟨a.length - i - 1,by omega⟩
 obtain ⟨q,hq⟩ : ∃ q,b.length - k = q + 1 := ⟨b.length - k - 1,by omega⟩
 rw [hp,hq,costW,show a.length - (i + 1) = p by omega,show b.length - (k + 1) = q by omega,show a.length - (p + 1) = i by omega,show b.length - (q + 1) = k by omega]
set_option maxHeartbeats 1000000 in
theorem numV {a b : List En} (ha : a.length ≤ 60) (hb : b.length ≤ 60) {P : List Int → Prop} {T : List (List Int)} {i q : Nat} (hi : i ≤ a.length) (hq : q ≤ b.length) (h : TabSt a.length b.length (costV a b) P i (q + 1) T) :
  impl_faults_1.f T (i : Int) (q : Int) a b = some (costV a b i q) := by
 obtain ⟨h1,h2,h3,h4⟩ := h
 unfold impl_faults_1.f
 by_cases e1 : i = a.length
 ·rw [if_pos (by omega),e1,costV_end1 hq,w64 (n := (b.length : Int) - (q : Int)) (by omega) (by omega),w64 (by omega) (by omega)]
 ·rw [if_neg (by omega)]
  by_cases e2 : q = b.length
  ·rw [if_pos (by omega),e2,costV_end2 (by omega),w64 (n := (a.length : Int) - (i : Int)) (by omega) (by omega),w64 (by omega) (by omega),Int.one_mul]
  ·rw [if_neg (by omega),w64 (n := (i : Int) + 1) (by omega) (by omega),w64 (n := (q : Int) + 1) (by omega) (by omega)]
   have r1 := h2 (i + 1) (by omega) (by omega)
   have d1 : rd_L6 T ((i : Int) + 1) = T.getD (i + 1) [] := by rw [show (i : Int) + 1 = ((i + 1 : Nat) : Int) by omega];rfl
   have d0 : rd_L6 T (i : Int) = T.getD i [] := rfl
   rw [d1,d0]
   have g1 := rowSt_get r1 (Nat.zero_le q) (by omega)
   have g2 : rd (T.getD (i + 1) []) ((q : Int) + 1) = costV a b (i + 1) (q + 1) := by
    have := rowSt_get r1 (Nat.zero_le (q + 1)) (by omega)
    rwa [show ((q + 1 : Nat) : Int) = (q : Int) + 1 by omega] at this
   have g3 : rd (T.getD i []) ((q : Int) + 1) = costV a b i (q + 1) := by
    have := rowSt_get h3 (Nat.le_refl (q + 1)) (by omega)
    rwa [show ((q + 1 : Nat) : Int) = (q : Int) + 1 by omega] at this
   have l1 := r1.1
   have l0 := h3.1
   have b1 := costV_b ha hb (i + 1) q
   have b2 := costV_b ha hb (i + 1) (q + 1)
   have b3 := costV_b ha hb i (q + 1)
   have c1 := costC_b (rd_T73 a (i : Int)) (rd_T73 b (q : Int))
   rw [if_pos (by omega),if_pos (by omega),if_pos (by omega),if_pos (by omega),if_pos (by omega),if_pos (by omega),if_pos (by omega),if_pos (by omega),if_pos (by omega),if_pos (by omega),stepFaults_eq]
   simp only [Option.bind_some]
   rw [g1,g2,g3,costV_in (i := i) (k := q) (by omega) (by omega)]
   cases hf : fitC (rd_T73 a (i : Int)) (rd_T73 b (q : Int)) with
   | false =>
    simp only [Bool.false_eq_true,if_false]
    rw [w64 (by omega) (by omega),w64 (by omega) (by omega)]
   | true =>
    simp only [if_true]
    rw [if_pos (by omega),w64 (by omega) (by omega),w64 (by omega) (by omega),w64 (by omega) (by omega)]
theorem implFaults_eq {k : Nat} {a b : List En} (ha : a.length ≤ 60) (hb : b.length ≤ 60) (hk : 100000 ≤ k) : impl_faults.f k a b = some (tabOf a.length b.length (costV a b)) := by
 unfold impl_faults.f impl_table__impl_faults_1.f
 rw [w64 (by omega) (by omega),if_pos (by omega),if_pos (by omega)]
 have e := tab_loop a.length b.length 1 (costV a b) (fun _ => True) (fun K T i => impl_table__impl_faults_1.l0 K b T i a b) (fun K T i q => impl_table__impl_faults_1.l1 K b T i q a b) (fun T => T) ha hb (by omega)
  (fun K T i hi hl _ => by
   refine ⟨List.replicate (b.length + 1) 0,by simp,?_⟩
   simp only [impl_table__impl_faults_1.l0]
   rw [if_pos (by omega),w64 (by omega) (by omega),if_pos (by omega),if_pos (by omega),if_pos (by omega),if_pos (by omega)]
   rw [show ((b.length : Int) + 1).toNat = b.length + 1 by omega,Int.toNat_natCast])
  (fun K T i q hi hq h => by
   have l0 := h.2.2.1.1
   have l1 := h.1
   simp only [impl_table__impl_faults_1.l1]
   rw [if_pos (by omega),if_pos (by omega),if_pos (by omega),numV ha hb hi hq h]
   simp only [Option.bind_some]
   have d0 : rd_L6 T (i : Int) = T.getD i [] := rfl
   rw [d0,if_pos (by omega),if_pos (by omega),w64 (by omega) (by omega),Int.toNat_natCast,Int.toNat_natCast])
  (fun K T i hi => by
   simp only [impl_table__impl_faults_1.l1]
   rw [if_neg (by omega),w64 (by omega) (by omega)])
  (fun K T => by
   simp only [impl_table__impl_faults_1.l0]
   rw [if_neg (by omega)]) (List.replicate (a.length + 1) []) (by simp) (fun _ _ => trivial) k hk
 rw [show ((a.length : Int) + 1).toNat = a.length + 1 by omega]
 try simp only at e
 rw [e]
 rfl
theorem const_flat {α : Type} (x : α) (n : Nat) : (List.range n).flatMap (fun _ => [x]) = List.replicate n x := by
 induction n with
 | zero => rfl
 | succ n ih =>
  rw [List.range_succ,List.flatMap_append,ih,List.replicate_succ']
  rfl
theorem l00Max_eq (x y : Int) : spec_l00Max.f x y = some (mx x y) := by
 unfold spec_l00Max.f mx
 split <;> split <;> first | rfl | (congr 1;omega) | omega
theorem specBegin_eq {k : Nat} {a b : List En} (ha : a.length ≤ 60) (hb : b.length ≤ 60) (hk : 100000 ≤ k) : spec_l07Begin.f k a b = some (List.replicate (a.length + 1) (List.replicate (b.length + 1) 0)) := by
 unfold spec_l07Begin.f
 have e := loop_acc (fun k acc i => spec_l07Begin.l0 k a b acc i) (a.length + 1) (fun _ => [List.replicate (b.length + 1) 0]) (fun T => T) (fun _ _ => by simp)
  (fun k i acc hi ha' => by
   simp only [spec_l07Begin.l0]
   rw [if_pos (by omega),w64 (by omega) (by omega),if_pos (by omega),if_pos (by omega),if_pos (by omega),w64 (by omega) (by omega),show ((b.length : Int) + 1).toNat = b.length + 1 by omega]
   rfl)
  (fun k acc h => by
   simp only [spec_l07Begin.l0]
   rw [if_neg (by omega)]) k (by omega)
 rw [e,const_flat]
theorem specStep {a b : List En} (ha : a.length ≤ 60) (hb : b.length ≤ 60) {K : Nat} {T : List (List Int)} {i q : Nat} (hi : i ≤ a.length) (hq : q ≤ b.length) (h : TabSt a.length b.length (costV a b) (fun r => r.length = b.length + 1) i (q + 1) T) :
  spec_l07Costs.l1 (K + 5) a b T (i : Int) (q : Int) = spec_l07Costs.l1 K a b (T.set i ((T.getD i []).set q (costV a b i q))) (i : Int) ((q : Int) - 1) := by
 obtain ⟨h1,h2,h3,h4⟩ := h
 have d0 : rd_L6 T (i : Int) = T.getD i [] := rfl
 have d1 : rd_L6 T ((i : Int) + 1) = T.getD (i + 1) [] := by rw [show (i : Int) + 1 = ((i + 1 : Nat) : Int) by omega];rfl
 have l0 := h3.1
 have hb3 := costV_b ha hb i (q + 1)
 have hb1 := costV_b ha hb (i + 1) q
 have hb2 := costV_b ha hb (i + 1) (q + 1)
 have hst : ∀ (K : Nat) (x : Int),mx x 0 = costV a b i q → (if 0 ≤ (i : Int) then (if (i : Int) < (T.length : Int) then ((spec_l00Max.f x 0).bind fun t133 => (if 0 ≤ (q : Int) then (if (q : Int) < ((T.getD i []).length : Int) then (spec_l07Costs.l1 K a b (T.set ((i : Int)).toNat ((T.getD i []).set ((q : Int)).toNat t133)) (i : Int) (wrap64 ((q : Int) - 1))) else none) else none)) else none) else none) = spec_l07Costs.l1 K a b (T.set i ((T.getD i []).set q (costV a b i q))) (i : Int) ((q : Int) - 1) := fun K x hx => by
  rw [if_pos (by omega),if_pos (by omega),l00Max_eq,hx]
  simp only [Option.bind_some]
  rw [if_pos (by omega),if_pos (by omega),w64 (by omega) (by omega),Int.toNat_natCast,Int.toNat_natCast]
 have g3 : q < b.length → rd (T.getD i []) ((q : Int) + 1) = costV a b i (q + 1) := fun hqb => by
  have := rowSt_get h3 (Nat.le_refl (q + 1)) (by omega)
  rwa [show ((q + 1 : Nat) : Int) = (q : Int) + 1 by omega] at this
 rcases Nat.eq_or_lt_of_le hi with e1 | e1
 ·subst e1
  rw [show K + 5 = (K + 4) + 1 from rfl]
  simp only [spec_l07Costs.l1]
  rw [if_pos (by omega),if_neg (by omega),show K + 4 = (K + 3) + 1 from rfl]
  simp only [spec_l07Costs.j2]
  rcases Nat.eq_or_lt_of_le hq with e2 | e2
  ·subst e2
   rw [if_neg (by omega),show K + 3 = (K + 2) + 1 from rfl]
   simp only [spec_l07Costs.j3]
   rw [if_neg (by simp),show K + 2 = (K + 1) + 1 from rfl]
   simp only [spec_l07Costs.j4]
   rw [if_neg (by omega)]
   simp only [spec_l07Costs.j5]
   rw [if_neg (by simp),d0]
   exact hst K (-1) (by rw [costV_end1 (Nat.le_refl _)];unfold mx;omega)
  ·rw [if_pos (by omega),if_pos (by omega),show K + 3 = (K + 2) + 1 from rfl]
   simp only [spec_l07Costs.j3]
   rw [if_pos trivial,if_pos (by omega),if_pos (by omega),w64 (n := (q : Int) + 1) (by omega) (by omega),if_pos (by omega),d0,if_pos (by omega),g3 e2,w64 (by omega) (by omega),show K + 2 = (K + 1) + 1 from rfl]
   simp only [spec_l07Costs.j4]
   rw [if_neg (by omega)]
   simp only [spec_l07Costs.j5]
   rw [if_neg (by simp),d0]
   exact hst K _ (by rw [costV_end1 (by omega),costV_end1 (by omega)];unfold mx;rw [if_neg (by omega)];omega)
 ·have r1 := h2 (i + 1) (by omega) (by omega)
  have l1 := r1.1
  have g1 := rowSt_get r1 (Nat.zero_le q) hq
  rw [show K + 5 = (K + 4) + 1 from rfl]
  simp only [spec_l07Costs.l1]
  rw [if_pos (by omega),if_pos (by omega),w64 (n := (i : Int) + 1) (by omega) (by omega),if_pos (by omega),if_pos (by omega),if_pos (by omega),d1,if_pos (by omega),g1,w64 (by omega) (by omega),show K + 4 = (K + 3) + 1 from rfl]
  simp only [spec_l07Costs.j2]
  rcases Nat.eq_or_lt_of_le hq with e2 | e2
  ·subst e2
   rw [if_neg (by omega),show K + 3 = (K + 2) + 1 from rfl]
   simp only [spec_l07Costs.j3]
   rw [if_neg (by simp),show K + 2 = (K + 1) + 1 from rfl]
   simp only [spec_l07Costs.j4]
   rw [if_pos (by omega),decide_eq_false (by omega)]
   simp only [spec_l07Costs.j5]
   rw [if_neg (by simp),d0]
   refine hst K _ ?_
   rw [costV_end2 e1]
   by_cases e3 : i + 1 = a.length
   ·rw [e3,costV_end1 (Nat.le_refl _)]
    unfold mx
    rw [if_neg (by omega)]
    omega
   ·rw [costV_end2 (by omega)]
    unfold mx
    rw [if_neg (by omega)]
    omega
  ·have g2 : rd (T.getD (i + 1) []) ((q : Int) + 1) = costV a b (i + 1) (q + 1) := by
    have := rowSt_get r1 (Nat.zero_le (q + 1)) (by omega)
    rwa [show ((q + 1 : Nat) : Int) = (q : Int) + 1 by omega] at this
   have c1 := costC_b (rd_T73 a (i : Int)) (rd_T73 b (q : Int))
   rw [if_pos (by omega),if_neg (by omega),if_pos (by omega),if_pos (by omega),w64 (n := (q : Int) + 1) (by omega) (by omega),if_pos (by omega),d0,if_pos (by omega),g3 e2,w64 (n := 2 + costV a b i (q + 1)) (by omega) (by omega)]
   have hj : spec_l07Costs.j3 (K + 3) a b T (i : Int) (q : Int) (1 + costV a b (i + 1) q) (decide (2 + costV a b i (q + 1) < 1 + costV a b (i + 1) q)) = spec_l07Costs.j4 (K + 2) a b T (i : Int) (q : Int) (mn (costV a b (i + 1) q + 1) (costV a b i (q + 1) + 2)) := by
    simp only [spec_l07Costs.j3]
    by_cases hlt : 2 + costV a b i (q + 1) < 1 + costV a b (i + 1) q
    ·rw [decide_eq_true hlt,if_pos rfl,if_pos (by omega),if_pos (by omega),w64 (n := (q : Int) + 1) (by omega) (by omega),if_pos (by omega),d0,if_pos (by omega),g3 e2,w64 (by omega) (by omega)]
     congr 1
     unfold mn
     rw [if_pos (by omega)]
     omega
    ·rw [decide_eq_false hlt,if_neg (by simp)]
     congr 1
     unfold mn
     split <;> omega
   rw [hj]
   have hm := mn_le (costV a b (i + 1) q + 1) (costV a b i (q + 1) + 2)
   have hv := costV_in (a := a) (b := b) e1 e2
   generalize mn (costV a b (i + 1) q + 1) (costV a b i (q + 1) + 2) = x at *
   rw [show K + 2 = (K + 1) + 1 from rfl]
   simp only [spec_l07Costs.j4]
   rw [if_pos (by omega),decide_eq_true (by omega)]
   simp only [spec_l07Costs.j5]
   rw [if_pos trivial,if_pos (by omega),if_pos (by omega),if_pos (by omega),if_pos (by omega),cost_eq]
   simp only [Option.bind_some]
   rw [d0,w64 (n := (i : Int) + 1) (by omega) (by omega),w64 (n := (q : Int) + 1) (by omega) (by omega),d1,g2]
   have hx0 : 0 ≤ x := by omega
   cases hf : fitC (rd_T73 a (i : Int)) (rd_T73 b (q : Int)) with
   | false =>
    rw [hf] at hv
    simp only [Bool.false_eq_true,if_false] at hv ⊢
    rw [if_neg (by omega)]
    have := hst K x (by rw [hv];unfold mx;split <;> omega)
    rw [if_pos (by omega)] at this
    rw [← this]
    by_cases hh : (i : Int) < (T.length : Int)
    ·rw [if_pos hh,if_pos hh]
     congr 1
     first | done | (funext t;rw [if_pos (by omega)])
    ·omega
   | true =>
    rw [hf] at hv
    simp only [if_true] at hv ⊢
    rw [if_pos (by omega),if_pos (by omega),if_pos (by omega),if_pos (by omega),if_pos (by omega),w64 (by omega) (by omega)]
    have key : ∀ y : Int,mx y 0 = costV a b i q → (if (i : Int) < (T.length : Int) then ((spec_l00Max.f y 0).bind fun t118 => (if (q : Int) < ((T.getD i []).length : Int) then (spec_l07Costs.l1 K a b (T.set ((i : Int)).toNat ((T.getD i []).set ((q : Int)).toNat t118)) (i : Int) (wrap64 ((q : Int) - 1))) else none)) else none) = spec_l07Costs.l1 K a b (T.set i ((T.getD i []).set q (costV a b i q))) (i : Int) ((q : Int) - 1) := fun y hy => by
     rw [if_pos (by omega),l00Max_eq,hy]
     simp only [Option.bind_some]
     rw [if_pos (by omega),w64 (by omega) (by omega),Int.toNat_natCast,Int.toNat_natCast]
    split
    ·rename_i hlt
     exact key _ (by rw [hv];unfold mx mn;split <;> split <;> omega)
    ·rename_i hlt
     exact key _ (by rw [hv];unfold mx mn;split <;> split <;> omega)
theorem specCosts_eq {k : Nat} {a b : List En} (ha : a.length ≤ 60) (hb : b.length ≤ 60) (hk : 100000 ≤ k) : spec_l07Costs.f k a b = some (tabOf a.length b.length (costV a b)) := by
 unfold spec_l07Costs.f
 rw [specBegin_eq ha hb hk]
 simp only [Option.bind_some]
 exact tab_loop a.length b.length 5 (costV a b) (fun r => r.length = b.length + 1) (fun K T i => spec_l07Costs.l0 K a b T i) (fun K T i q => spec_l07Costs.l1 K a b T i q) (fun T => T) ha hb (by omega)
  (fun K T i hi hl hp => by
   refine ⟨T.getD i [],hp,?_⟩
   simp only [spec_l07Costs.l0]
   rw [if_pos (by omega)]
   congr 1
   rw [List.getD_eq_getElem?_getD,List.getElem?_eq_getElem (by omega)]
   simp)
  (fun K T i q hi hq h => specStep ha hb hi hq h)
  (fun K T i hi => by
   simp only [spec_l07Costs.l1]
   rw [if_neg (by omega),w64 (by omega) (by omega)])
  (fun K T => by
   simp only [spec_l07Costs.l0]
   rw [if_neg (by omega)]) _ (by simp) (fun i hi => by
    rw [List.getD_eq_getElem?_getD,List.getElem?_replicate,if_pos (by omega)]
    simp) k hk
theorem logsCode_eq {a b : List En} (ha : a.length ≤ 1048576) (hb : b.length ≤ 1048576) : impl_logsCode.f a b = some (if validG a = true ∧ validG b = true then 0 else 1) := by
 unfold impl_logsCode.f
 rw [implValid_log ha,implValid_log hb]
 simp only [Option.bind_some]
 cases validG a <;> cases validG b <;> simp [impl_unless.f]
end Go.Proofs.Ytidkniacmcbgiaa.G.Pure
end

section
namespace Go.Proofs.Ytidkniacmcbgiaa.G.Pure
open Go.RowKit Go.Proofs.Ytidkniacmcbgiaa.G Go.Proofs.YtidkniacmcbgiaaW.PrintWords Go.Proofs.YtidkniacmcbgiaaW.PrintLast Go.Proofs.YtidkniacmcbgiaaW.PrintMore
set_option linter.unusedVariables false
set_option linter.unusedSimpArgs false
def bothS (a b : List En) (i k : Nat) : Bool := decide (i < a.length) && decide (k < b.length) && fitC (rd_T73 a (i : Int)) (rd_T73 b (k : Int)) && (costV a b i k == costV a b (i + 1) (k + 1) + costC (rd_T73 a (i : Int)) (rd_T73 b (k : Int)))
def dropS (a b : List En) (i k : Nat) : Bool := decide (i < a.length) && (costV a b i k == costV a b (i + 1) k + 1)
def nxtS (a b : List En) (i k : Nat) : St × Nat × Nat := if bothS a b i k = true then (⟨(i : Int),(k : Int)⟩,i + 1,k + 1) else if dropS a b i k = true then (⟨(i : Int),-1⟩,i + 1,k) else (⟨-1,(k : Int)⟩,i,k + 1)
def sto (a b : List En) : Nat → Nat → Nat → List St
 | 0,_,_ => []
 | d + 1,i,k => if i < a.length ∨ k < b.length then (nxtS a b i k).1 :: sto a b d (nxtS a b i k).2.1 (nxtS a b i k).2.2 else []
theorem tab_dims {a b : List En} {i k : Nat} (hi : i ≤ a.length) (hk : k ≤ b.length) : ((tabOf a.length b.length (costV a b)).length : Int) = (a.length : Int) + 1 ∧ ((rd_L6 (tabOf a.length b.length (costV a b)) (i : Int)).length : Int) = (b.length : Int) + 1 ∧ rd (rd_L6 (tabOf a.length b.length (costV a b)) (i : Int)) (k : Int) = costV a b i k := by
 refine ⟨?_,?_,?_⟩
 ·rw [tab_len];omega
 ·rw [tab_row hi,row_len];omega
 ·rw [tab_row hi,row_at hk]
theorem nxt_in {a b : List En} {i k : Nat} (hi : i ≤ a.length) (hk : k ≤ b.length) (h : i < a.length ∨ k < b.length) : (nxtS a b i k).2.1 ≤ a.length ∧ (nxtS a b i k).2.2 ≤ b.length ∧ i + k < (nxtS a b i k).2.1 + (nxtS a b i k).2.2 := by
 unfold nxtS
 split
 ·rename_i hb
  simp only [bothS,Bool.and_eq_true,decide_eq_true_eq] at hb
  simp only
  omega
 ·split
  ·rename_i hd
   simp only [dropS,Bool.and_eq_true,decide_eq_true_eq] at hd
   simp only
   omega
  ·rename_i hd
   have : k < b.length := by
    rcases Nat.lt_or_ge k b.length with h1 | h1
    ·exact h1
    ·obtain rfl : k = b.length := by omega
     have hia : i < a.length := by omega
     exfalso
     apply hd
     simp only [dropS,Bool.and_eq_true,decide_eq_true_eq,beq_iff_eq]
     refine ⟨hia,?_⟩
     rw [costV_end2 hia]
     rcases Nat.lt_or_ge (i + 1) a.length with h2 | h2
     ·rw [costV_end2 h2];omega
     ·rw [show i + 1 = a.length by omega,costV_end1 (Nat.le_refl _)];omega
   simp only
   omega
set_option maxHeartbeats 1000000 in
theorem implStory_step {a b : List En} (ha : a.length ≤ 60) (hb : b.length ≤ 60) (K : Nat) (acc : List St) {i k : Nat} (hi : i ≤ a.length) (hk : k ≤ b.length) (h : i < a.length ∨ k < b.length) (hacc : acc.length ≤ 1000) :
  impl_story.l0 (K + 4) a b (tabOf a.length b.length (costV a b)) acc (i : Int) (k : Int) = impl_story.l0 K a b (tabOf a.length b.length (costV a b)) (acc ++ [(nxtS a b i k).1]) ((nxtS a b i k).2.1 : Int) ((nxtS a b i k).2.2 : Int) := by
 obtain ⟨t1,t2,t3⟩ := tab_dims (a := a) (b := b) hi hk
 have bv := costV_b ha hb i k
 have c1 := costC_b (rd_T73 a (i : Int)) (rd_T73 b (k : Int))
 have e1 : impl_story.l0 (K + 4) a b (tabOf a.length b.length (costV a b)) acc (i : Int) (k : Int) = impl_story.j1 (K + 3) a b (tabOf a.length b.length (costV a b)) acc (i : Int) (k : Int) true := by
  simp only [impl_story.l0]
  by_cases h1 : i < a.length
  ·rw [if_pos (by omega)]
  ·rw [if_neg (by omega),decide_eq_true (by omega)]
 have e2 : impl_story.j1 (K + 3) a b (tabOf a.length b.length (costV a b)) acc (i : Int) (k : Int) true = impl_story.j2 (K + 2) a b (tabOf a.length b.length (costV a b)) acc (i : Int) (k : Int) false (decide (i < a.length) && decide (k < b.length)) := by
  simp only [impl_story.j1]
  rw [if_pos trivial]
  by_cases h1 : i < a.length
  ·rw [if_pos (by omega),decide_eq_true h1,Bool.true_and]
   congr 1
   simp
  ·rw [if_neg (by omega),decide_eq_false h1,Bool.false_and]
 have e3 : impl_story.j2 (K + 2) a b (tabOf a.length b.length (costV a b)) acc (i : Int) (k : Int) false (decide (i < a.length) && decide (k < b.length)) = impl_story.j3 (K + 1) a b (tabOf a.length b.length (costV a b)) acc (i : Int) (k : Int) (bothS a b i k) := by
  simp only [impl_story.j2]
  by_cases h2 : i < a.length ∧ k < b.length
  ·obtain ⟨h2,h3⟩ := h2
   obtain ⟨_,s2,s3⟩ := tab_dims (a := a) (b := b) (i := i + 1) (k := k + 1) (by omega) (by omega)
   rw [show ((i + 1 : Nat) : Int) = (i : Int) + 1 by omega] at s2 s3
   rw [show ((k + 1 : Nat) : Int) = (k : Int) + 1 by omega] at s3
   have bv2 := costV_b ha hb (i + 1) (k + 1)
   unfold bothS
   rw [decide_eq_true h2,decide_eq_true h3]
   simp only [Bool.and_true,Bool.true_and]
   rw [if_pos trivial,if_pos (by omega),if_pos (by omega),if_pos (by omega),if_pos (by omega),stepFaults_eq]
   simp only [Option.bind_some]
   cases hf : fitC (rd_T73 a (i : Int)) (rd_T73 b (k : Int)) with
   | false => simp
   | true =>
    simp only [if_true,Bool.true_and]
    rw [if_pos (by omega),if_pos (by omega),w64 (n := (i : Int) + 1) (by omega) (by omega),w64 (n := (k : Int) + 1) (by omega) (by omega),if_pos (by omega),if_pos (by omega),if_pos (by omega),if_pos (by omega),t3,s3,w64 (by omega) (by omega)]
  ·have : (decide (i < a.length) && decide (k < b.length)) = false := by
    rw [Bool.and_eq_false_iff]
    simp only [decide_eq_false_iff_not]
    omega
   unfold bothS
   rw [this]
   simp
 rw [e1,e2,e3]
 simp only [impl_story.j3]
 unfold nxtS
 cases hbo : bothS a b i k with
 | true =>
  simp only [if_true]
  rw [if_pos (by omega),w64 (by omega) (by omega),w64 (by omega) (by omega)]
  rfl
 | false =>
  simp only [Bool.false_eq_true,if_false]
  by_cases h1 : i < a.length
  ·obtain ⟨_,s2,s3⟩ := tab_dims (a := a) (b := b) (i := i + 1) (k := k) (by omega) hk
   rw [show ((i + 1 : Nat) : Int) = (i : Int) + 1 by omega] at s2 s3
   have bv2 := costV_b ha hb (i + 1) k
   rw [if_pos (by omega),if_pos (by omega),if_pos (by omega),if_pos (by omega),if_pos (by omega),w64 (n := (i : Int) + 1) (by omega) (by omega),if_pos (by omega),if_pos (by omega),if_pos (by omega),t3,s3,w64 (n := costV a b (i + 1) k + 1) (by omega) (by omega)]
   by_cases hd : costV a b i k = costV a b (i + 1) k + 1
   ·rw [if_pos hd,if_pos (by omega),if_pos (by unfold dropS;simp [h1,hd])]
    rfl
   ·rw [if_neg hd,if_pos (by omega),if_neg (by unfold dropS;simp [h1,hd]),w64 (by omega) (by omega)]
    rfl
  ·rw [if_neg (by omega),if_pos (by omega),if_neg (by unfold dropS;simp [h1]),w64 (by omega) (by omega)]
   rfl
theorem implStory_all {a b : List En} (ha : a.length ≤ 60) (hb : b.length ≤ 60) : ∀ d i k acc K,a.length + b.length ≤ d + (i + k) → i ≤ a.length → k ≤ b.length → acc.length ≤ i + k → 4 * d + 2 ≤ K →
  impl_story.l0 K a b (tabOf a.length b.length (costV a b)) acc (i : Int) (k : Int) = some (acc ++ sto a b d i k) := by
 intro d
 induction d with
 | zero =>
  intro i k acc K hd hi hk hacc hK
  obtain ⟨K,rfl⟩ : ∃ m,K = m + 2 := ⟨K - 2,by omega⟩
  simp only [impl_story.l0,impl_story.j1,sto]
  rw [if_neg (by omega),decide_eq_false (by omega),if_neg (by simp),List.append_nil]
 | succ d ih =>
  intro i k acc K hd hi hk hacc hK
  by_cases h : i < a.length ∨ k < b.length
  ·obtain ⟨n1,n2,n3⟩ := nxt_in hi hk h
   obtain ⟨K,rfl⟩ : ∃ m,K = m + 4 := ⟨K - 4,by omega⟩
   rw [implStory_step ha hb K acc hi hk h (by omega),ih _ _ _ K (by omega) n1 n2 (by rw [List.length_append,List.length_singleton];omega) (by omega),sto,if_pos h,List.append_assoc]
   rfl
  ·obtain ⟨K,rfl⟩ : ∃ m,K = m + 2 := ⟨K - 2,by omega⟩
   simp only [impl_story.l0,impl_story.j1,sto]
   rw [if_neg (by omega),decide_eq_false (by omega),if_neg (by simp),if_neg h,List.append_nil]
def storyL (a b : List En) : List St := sto a b (a.length + b.length) 0 0
theorem implStoryL {K : Nat} {a b : List En} (ha : a.length ≤ 60) (hb : b.length ≤ 60) (hK : 100000 ≤ K) : impl_story.f K a b = some (storyL a b) := by
 unfold impl_story.f
 rw [implFaults_eq ha hb hK]
 simp only [Option.bind_some]
 have e := implStory_all ha hb (a.length + b.length) 0 0 [] K (by omega) (by omega) (by omega) (by simp) (by omega)
 rw [show ((0 : Nat) : Int) = 0 from rfl] at e
 rw [e]
 rfl
set_option maxHeartbeats 1000000 in
theorem specStory_step {a b : List En} (ha : a.length ≤ 60) (hb : b.length ≤ 60) (K : Nat) (acc : List St) {i k : Nat} (hi : i ≤ a.length) (hk : k ≤ b.length) (h : i < a.length ∨ k < b.length) (hacc : acc.length ≤ 1000) :
  spec_l07Story.l0 (K + 5) a b (tabOf a.length b.length (costV a b)) acc (i : Int) (k : Int) = spec_l07Story.l0 K a b (tabOf a.length b.length (costV a b)) (acc ++ [(nxtS a b i k).1]) ((nxtS a b i k).2.1 : Int) ((nxtS a b i k).2.2 : Int) := by
 obtain ⟨t1,t2,t3⟩ := tab_dims (a := a) (b := b) hi hk
 have bv := costV_b ha hb i k
 have c1 := costC_b (rd_T73 a (i : Int)) (rd_T73 b (k : Int))
 have e1 : spec_l07Story.l0 (K + 5) a b (tabOf a.length b.length (costV a b)) acc (i : Int) (k : Int) = spec_l07Story.j1 (K + 4) a b (tabOf a.length b.length (costV a b)) acc (i : Int) (k : Int) true := by
  simp only [spec_l07Story.l0]
  by_cases h1 : i < a.length
  ·rw [if_pos (by omega)]
  ·rw [if_neg (by omega),decide_eq_true (by omega)]
 have e2 : spec_l07Story.j1 (K + 4) a b (tabOf a.length b.length (costV a b)) acc (i : Int) (k : Int) true = spec_l07Story.j2 (K + 3) a b (tabOf a.length b.length (costV a b)) acc (i : Int) (k : Int) (-1) (decide (i < a.length) && decide (k < b.length)) := by
  simp only [spec_l07Story.j1]
  rw [if_pos trivial]
  by_cases h1 : i < a.length
  ·rw [if_pos (by omega),decide_eq_true h1,Bool.true_and]
   congr 1
   simp
  ·rw [if_neg (by omega),decide_eq_false h1,Bool.false_and]
 have e3 : spec_l07Story.j2 (K + 3) a b (tabOf a.length b.length (costV a b)) acc (i : Int) (k : Int) (-1) (decide (i < a.length) && decide (k < b.length)) = spec_l07Story.j4 (K + 1) a b (tabOf a.length b.length (costV a b)) acc (i : Int) (k : Int) (bothS a b i k) := by
  simp only [spec_l07Story.j2]
  by_cases h2 : i < a.length ∧ k < b.length
  ·obtain ⟨h2,h3⟩ := h2
   obtain ⟨_,s2,s3⟩ := tab_dims (a := a) (b := b) (i := i + 1) (k := k + 1) (by omega) (by omega)
   rw [show ((i + 1 : Nat) : Int) = (i : Int) + 1 by omega] at s2 s3
   rw [show ((k + 1 : Nat) : Int) = (k : Int) + 1 by omega] at s3
   have bv2 := costV_b ha hb (i + 1) (k + 1)
   unfold bothS
   rw [decide_eq_true h2,decide_eq_true h3]
   simp only [Bool.and_true,Bool.true_and]
   rw [if_pos trivial,if_pos (by omega),if_pos (by omega),if_pos (by omega),if_pos (by omega),cost_eq]
   simp only [Option.bind_some,spec_l07Story.j3]
   cases hf : fitC (rd_T73 a (i : Int)) (rd_T73 b (k : Int)) with
   | false =>
    simp only [Bool.false_eq_true,if_false,Bool.false_and]
    rw [if_neg (by omega)]
   | true =>
    simp only [if_true,Bool.true_and]
    rw [if_pos (by omega),w64 (n := (i : Int) + 1) (by omega) (by omega),w64 (n := (k : Int) + 1) (by omega) (by omega),if_pos (by omega),if_pos (by omega),if_pos (by omega),if_pos (by omega),if_pos (by omega),if_pos (by omega),if_pos (by omega),if_pos (by omega),t3,s3,w64 (by omega) (by omega)]
    congr 1
    rw [Bool.eq_iff_iff]
    simp only [beq_iff_eq]
    omega
  ·have : (decide (i < a.length) && decide (k < b.length)) = false := by
    rw [Bool.and_eq_false_iff]
    simp only [decide_eq_false_iff_not]
    omega
   unfold bothS
   rw [this]
   simp only [Bool.false_eq_true,if_false,Bool.false_and,spec_l07Story.j3]
   rw [if_neg (by omega)]
 rw [e1,e2,e3]
 simp only [spec_l07Story.j4]
 unfold nxtS
 cases hbo : bothS a b i k with
 | true =>
  simp only [if_true]
  rw [if_pos (by omega),w64 (by omega) (by omega),w64 (by omega) (by omega)]
  rfl
 | false =>
  simp only [Bool.false_eq_true,if_false]
  by_cases h1 : i < a.length
  ·obtain ⟨_,s2,s3⟩ := tab_dims (a := a) (b := b) (i := i + 1) (k := k) (by omega) hk
   rw [show ((i + 1 : Nat) : Int) = (i : Int) + 1 by omega] at s2 s3
   have bv2 := costV_b ha hb (i + 1) k
   rw [if_pos (by omega),w64 (n := (i : Int) + 1) (by omega) (by omega),if_pos (by omega),if_pos (by omega),if_pos (by omega),if_pos (by omega),if_pos (by omega),if_pos (by omega),if_pos (by omega),t3,s3,w64 (n := 1 + costV a b (i + 1) k) (by omega) (by omega)]
   by_cases hd : costV a b i k = costV a b (i + 1) k + 1
   ·rw [if_pos (by omega),if_pos (by omega),if_pos (by unfold dropS;simp [h1,hd])]
    rfl
   ·rw [if_neg (by omega),if_pos (by omega),if_neg (by unfold dropS;simp [h1,hd]),w64 (by omega) (by omega)]
    rfl
  ·rw [if_neg (by omega),if_pos (by omega),if_neg (by unfold dropS;simp [h1]),w64 (by omega) (by omega)]
   rfl
theorem specStory_all {a b : List En} (ha : a.length ≤ 60) (hb : b.length ≤ 60) : ∀ d i k acc K,a.length + b.length ≤ d + (i + k) → i ≤ a.length → k ≤ b.length → acc.length ≤ i + k → 5 * d + 2 ≤ K →
  spec_l07Story.l0 K a b (tabOf a.length b.length (costV a b)) acc (i : Int) (k : Int) = some (acc ++ sto a b d i k) := by
 intro d
 induction d with
 | zero =>
  intro i k acc K hd hi hk hacc hK
  obtain ⟨K,rfl⟩ : ∃ m,K = m + 2 := ⟨K - 2,by omega⟩
  simp only [spec_l07Story.l0,spec_l07Story.j1,sto]
  rw [if_neg (by omega),decide_eq_false (by omega),if_neg (by simp),List.append_nil]
 | succ d ih =>
  intro i k acc K hd hi hk hacc hK
  by_cases h : i < a.length ∨ k < b.length
  ·obtain ⟨n1,n2,n3⟩ := nxt_in hi hk h
   obtain ⟨K,rfl⟩ : ∃ m,K = m + 5 := ⟨K - 5,by omega⟩
   rw [specStory_step ha hb K acc hi hk h (by omega),ih _ _ _ K (by omega) n1 n2 (by rw [List.length_append,List.length_singleton];omega) (by omega),sto,if_pos h,List.append_assoc]
   rfl
  ·obtain ⟨K,rfl⟩ : ∃ m,K = m + 2 := ⟨K - 2,by omega⟩
   simp only [spec_l07Story.l0,spec_l07Story.j1,sto]
   rw [if_neg (by omega),decide_eq_false (by omega),if_neg (by simp),if_neg h,List.append_nil]
theorem specStoryL {K : Nat} {a b : List En} (ha : a.length ≤ 60) (hb : b.length ≤ 60) (hK : 100000 ≤ K) : spec_l07Story.f K a b = some (storyL a b) := by
 unfold spec_l07Story.f
 rw [specCosts_eq ha hb hK]
 simp only [Option.bind_some]
 have e := specStory_all ha hb (a.length + b.length) 0 0 [] K (by omega) (by omega) (by omega) (by simp) (by omega)
 rw [show ((0 : Nat) : Int) = 0 from rfl] at e
 rw [e]
 rfl
def stepOk (a b : List En) (s : St) : Prop := (∃ i k : Nat,i < a.length ∧ k < b.length ∧ s = ⟨(i : Int),(k : Int)⟩ ∧ fitC (rd_T73 a (i : Int)) (rd_T73 b (k : Int)) = true) ∨ (∃ i : Nat,i < a.length ∧ s = ⟨(i : Int),-1⟩) ∨ ∃ k : Nat,k < b.length ∧ s = ⟨-1,(k : Int)⟩
theorem sto_ok {a b : List En} : ∀ d i k,i ≤ a.length → k ≤ b.length → (∀ s ∈ sto a b d i k,stepOk a b s) ∧ (sto a b d i k).length ≤ d := by
 intro d
 induction d with
 | zero => intro i k _ _;simp [sto]
 | succ d ih =>
  intro i k hi hk
  rw [sto]
  split
  ·rename_i h
   obtain ⟨n1,n2,n3⟩ := nxt_in hi hk h
   obtain ⟨i1,i2⟩ := ih _ _ n1 n2
   refine ⟨fun s hs => ?_,by simp only [List.length_cons];omega⟩
   rcases List.mem_cons.1 hs with rfl | hs
   ·unfold nxtS
    unfold nxtS at n1 n2
    split
    ·rename_i hb
     simp only [bothS,Bool.and_eq_true,decide_eq_true_eq] at hb
     exact .inl ⟨i,k,hb.1.1.1,hb.1.1.2,rfl,hb.1.2⟩
    ·rename_i hb
     rw [if_neg hb] at n1 n2
     split
     ·rename_i hd
      simp only [dropS,Bool.and_eq_true,decide_eq_true_eq] at hd
      exact .inr (.inl ⟨i,hd.1,rfl⟩)
     ·rename_i hd
      rw [if_neg hd] at n1 n2
      exact .inr (.inr ⟨k,by simp only at n2;omega,rfl⟩)
   ·exact i1 s hs
  ·simp
theorem storyL_ok {a b : List En} : (∀ s ∈ storyL a b,stepOk a b s) ∧ (storyL a b).length ≤ a.length + b.length := sto_ok _ 0 0 (Nat.zero_le _) (Nat.zero_le _)
def resStoryOf (a b : List En) : List St × Int := if validG a = true ∧ validG b = true then (storyL a b,0) else ([],1)
theorem implStoryOf_eq {K : Nat} {a b : List En} (ha : a.length ≤ 1048576) (hb : b.length ≤ 1048576) (hK : 100000 ≤ K) : impl_StoryOf.f K a b = some (resStoryOf a b) := by
 unfold impl_StoryOf.f resStoryOf
 rw [logsCode_eq ha hb]
 simp only [Option.bind_some]
 by_cases hv : validG a = true ∧ validG b = true
 ·rw [if_pos hv,if_pos rfl,if_pos hv,implStoryL (valid_parts hv.1).1 (valid_parts hv.2).1 hK]
  rfl
 ·rw [if_neg hv,if_neg (by omega),if_neg hv]
theorem specStoryOf_eq {K : Nat} {a b : List En} (hK : 100000 ≤ K) : spec_StoryOf.f K a b = some (resStoryOf a b) := by
 unfold spec_StoryOf.f resStoryOf
 rw [specOk_log (by omega),specOk_log (by omega)]
 simp only [Option.bind_some]
 cases h1 : validG a with
 | false => simp
 | true =>
  cases h2 : validG b with
  | false => simp
  | true =>
   simp only [if_true,and_self]
   rw [specStoryL (valid_parts h1).1 (valid_parts h2).1 hK]
   rfl
theorem resStoryOf_len {a b : List En} : (resStoryOf a b).1.length ≤ 120 := by
 unfold resStoryOf
 split
 ·rename_i h
  have := (storyL_ok (a := a) (b := b)).2
  have := (valid_parts h.1).1
  have := (valid_parts h.2).1
  simp only
  omega
 ·simp
end Go.Proofs.Ytidkniacmcbgiaa.G.Pure
end

section
namespace Go.Proofs.Ytidkniacmcbgiaa.G.Pure
open Go.RowKit Go.Proofs.Ytidkniacmcbgiaa.G Go.Proofs.YtidkniacmcbgiaaW.PrintWords Go.Proofs.YtidkniacmcbgiaaW.PrintLast Go.Proofs.YtidkniacmcbgiaaW.PrintMore
set_option linter.unusedVariables false
set_option linter.unusedSimpArgs false
theorem FnExactStoryOf (l0 : List (S75)) (l1 : List (S75)) (h00 : l0.length ≤ 9223372036854775807) (h01 : (∀ x ∈ l0,(Lit.int .i64 x.f0).wf = true ∧ (Lit.int .i64 x.f1).wf = true ∧ True)) (h10 : l1.length ≤ 9223372036854775807) (h11 : (∀ x ∈ l1,(Lit.int .i64 x.f0).wf = true ∧ (Lit.int .i64 x.f1).wf = true ∧ True)) : ∃ k,laws_FnExactStoryOf.f k l0 l1 = some true := by
 by_cases hL : l0.length ≤ 1048576
 ·by_cases hM : (1048576 : Int) - l0.length - l1.length < 0
  ·refine ⟨0,?_⟩
   unfold laws_FnExactStoryOf.f
   rw [szLog_eq _ _ (by omega) (by omega) h00,if_neg (by omega)]
   simp only [Option.bind_some]
   rw [if_neg (by omega),szLog_eq _ _ (by omega) (by omega) h10,if_pos (by omega)]
   rfl
  ·obtain ⟨k,hk⟩ : ∃ k,1100000 < k := ⟨_,Nat.lt_succ_self _⟩
   refine ⟨k + 4,?_⟩
   have hL' : (l0.map entryOf).length ≤ 1048576 := by simpa using hL
   have hM' : (l1.map entryOf).length ≤ 1048576 := by rw [List.length_map];omega
   have hr := resStoryOf_len (a := l0.map entryOf) (b := l1.map entryOf)
   have e1 := fun j => toLog_eq (k + j) l0 hL (by omega)
   have e2 := fun j => toLog_eq (k + j) l1 (by omega) (by omega)
   have q1 := fun j => eqLog_self (k + j) (l0.map entryOf) hL' (by omega)
   have q2 := fun j => eqLog_self (k + j) (l1.map entryOf) hM' (by omega)
   have s1 := fun j => specStoryOf_eq (K := k + j) (a := l0.map entryOf) (b := l1.map entryOf) (by omega)
   have i1 := fun j => implStoryOf_eq (K := k + j) hL' hM' (by omega)
   have t1 := fun j => eqStepS_self (k + j) (resStoryOf (l0.map entryOf) (l1.map entryOf)).1 (by omega) (by omega)
   obtain ⟨x1,m1,hm1,hm10,hm11⟩ := markLog_from (k + 3) (l0.map entryOf) 1 hL' (by omega) (by omega) (by omega)
   obtain ⟨x2,m2,hm2,hm20,_⟩ := markLog_from (k + 3) (l1.map entryOf) m1 hM' (by omega) hm10 (by omega)
   obtain ⟨l,m',ha,hb,hm3⟩ := markStepS_held (k + 2) (resStoryOf (l0.map entryOf) (l1.map entryOf)).1 (by omega) (by omega)
   have hb0 := hb (k + 1) (by omega)
   have hb1 := hb (k + 2) (by omega)
   generalize resStoryOf (l0.map entryOf) (l1.map entryOf) = res at *
   unfold laws_FnExactStoryOf.f
   rw [szLog_eq _ _ (by omega) (by omega) h00,if_neg (by omega)]
   simp only [Option.bind_some]
   rw [if_neg (by omega),szLog_eq _ _ (by omega) (by omega) h10,if_neg (by omega)]
   simp only [Option.bind_some]
   rw [if_neg (by omega)]
   simp [laws_FnExactStoryOf.j0,laws_FnExactStoryOf.j1,laws_FnExactStoryOf.j2,e1,e2,q1,q2,s1,i1,t1,hm1,hm2,ha,hb0,hb1,Int.not_lt.2 hm20,Int.not_lt.2 hm3]
 ·refine ⟨0,?_⟩
  unfold laws_FnExactStoryOf.f
  rw [szLog_big h00 hL]
  rfl
end Go.Proofs.Ytidkniacmcbgiaa.G.Pure
end
