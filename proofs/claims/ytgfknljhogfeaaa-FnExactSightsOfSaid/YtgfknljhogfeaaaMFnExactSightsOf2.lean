/- The law's functions, their contracts, and the plain lemmas: texts of this claim, laid together. -/
import Derived.Deep.Slices
import Derived.Deep.Fields
import Derived.ChangeSame
import Derived.OpenShut
import Derived.Test.YtgfknljhogfeaaaMFnExactSightsOf0
import Derived.Test.YtgfknljhogfeaaaMFnExactSightsOf1
section
namespace Go.Proofs.Ytgfknljhogfeaaa.G
open Go.RowKit Go.Proofs.YtgfknljhogfeaaaW.PrintWords Go.Proofs.YtgfknljhogfeaaaW.PrintLast Go.Proofs.YtgfknljhogfeaaaW.PrintMore
attribute [local go_sem] max2_int min2_int max_two min_two max_three min_three max_four min_four
set_option linter.unusedVariables false
set_option linter.unusedSimpArgs false
mutual
def laws_FnExactSightsOf.j0 : Nat → Int → List (S61) → Int → List (S61) → Int → Bool → List (S67) → List (List Int) → List (S68) → List (List Int) → Option (Bool)
 | 0,_,_,_,_,_,_,_,_,_,_ => none
 | k + 1,x1,x6,x7,x9,x10,x44,x102000,x102001,x120000,x120001 => if x44 = true then (some false) else ((laws_toCode.f k x102000 x102001).bind fun bt125 => ((laws_eqCode.f k x120000 x120001 bt125.1 bt125.2).bind fun t131 => (if t131 = true then ((laws_markCode.f k x120000 x120001 1).bind fun bt132 => (if bt132.1 < 0 then (laws_FnExactSightsOf.j1 k x1 x6 x7 x9 true x102000 x102001) else ((laws_eqSightS.f x9 x6).bind fun t135 => (if t135 = true then (laws_FnExactSightsOf.j1 k x1 x6 x7 x9 (x10 != x7) x102000 x102001) else (laws_FnExactSightsOf.j1 k x1 x6 x7 x9 true x102000 x102001))))) else (some false))))
def laws_FnExactSightsOf.j1 : Nat → Int → List (S61) → Int → List (S61) → Bool → List (S67) → List (List Int) → Option (Bool)
 | 0,_,_,_,_,_,_,_ => none
 | k + 1,x1,x6,x7,x9,x65,x102000,x102001 => if x65 = true then (some false) else ((laws_markSightS.f x9 1).bind fun bt136 => ((laws_heldSightS.f bt136.2 1).bind fun t138 => (if t138 < 0 then (some false) else (if t138 = bt136.1 then ((laws_toCode.f k x102000 x102001).bind fun bt139 => ((impl_SightsOf.f k bt139.1 bt139.2 x1).bind fun bt145 => ((laws_eqSightS.f bt145.1 x6).bind fun t149 => (if t149 = true then (laws_FnExactSightsOf.j2 k bt136.2 bt136.1 (bt145.2 != x7)) else (laws_FnExactSightsOf.j2 k bt136.2 bt136.1 true))))) else (some false)))))
def laws_FnExactSightsOf.j2 : Nat → List (S61) → Int → Bool → Option (Bool)
 | 0,_,_,_ => none
 | k + 1,x9,x12,x92 => if x92 = true then (some false) else ((laws_heldSightS.f x9 1).bind fun t150 => (if t150 < 0 then (some false) else (if t150 = x12 then (some true) else (some false))))
end
def laws_FnExactSightsOf.f (k : Nat) (l0_0 : List (S67)) (l0_1 : List (List Int)) (a1 : Int) : Option (Bool) := (laws_szCode.f k l0_0 l0_1 1048576).bind fun t102 => (if t102 < 0 then (some true) else ((laws_toCode.f k l0_0 l0_1).bind fun bt103 => ((spec_SightsOf.f k bt103.1 bt103.2 a1).bind fun bt109 => ((laws_toCode.f k l0_0 l0_1).bind fun bt113 => ((impl_SightsOf.f k bt113.1 bt113.2 a1).bind fun bt120 => ((laws_eqSightS.f bt120.1 bt109.1).bind fun t124 => (if t124 = true then (laws_FnExactSightsOf.j0 k a1 bt109.1 bt109.2 bt120.1 bt120.2 (bt120.2 != bt109.2) l0_0 l0_1 bt113.1 bt113.2) else (laws_FnExactSightsOf.j0 k a1 bt109.1 bt109.2 bt120.1 bt120.2 true l0_0 l0_1 bt113.1 bt113.2))))))))
set_option maxHeartbeats 8000000 in
set_option maxRecDepth 100000 in
theorem laws_FnExactSightsOf.calls (k : Nat) (A0_0 : Option Addr) (c0_0 : Nat) (l0_0 : List (S67)) (A0_1 : Option Addr) (c0_1 : Nat) (l0_1 : List (List Int)) (a1 : Int) (r : Bool) (w : World) (hr0_0 : Kd.C k67 w A0_0 l0_0.length l0_0) (hc0_0 : l0_0.length ≤ c0_0) (hr0_1 : Kd.C (Kd.slice 5 (Kd.int .u8)) w A0_1 l0_1.length l0_1) (hc0_1 : l0_1.length ≤ c0_1) (h : laws_FnExactSightsOf.f k l0_0 l0_1 a1 = some r) :
  Calls Try.prog 3 #[.agg #[.slice A0_0 l0_0.length c0_0,.slice A0_1 l0_1.length c0_1],.int .i64 a1] w fun e w' => e = .returned (.bool r) ∧ Below w.heap.size w w' := by
 have hu25 := Try.underlying25;have hu33 := Try.underlying33;have HR0_0 := Aside0.mk hr0_0;have HC0_0 := Aside0.mk hc0_0;clear hr0_0 hc0_0;have HR0_1 := Aside0.mk hr0_1;have HC0_1 := Aside0.mk hc0_1;clear hr0_1 hc0_1;have HB := Aside0.mk (Below.refl w.heap.size w);have H : ((laws_szCode.f k l0_0 l0_1 1048576).bind fun t102 => (if t102 < 0 then (some true) else ((laws_toCode.f k l0_0 l0_1).bind fun bt103 => ((spec_SightsOf.f k bt103.1 bt103.2 a1).bind fun bt109 => ((laws_toCode.f k l0_0 l0_1).bind fun bt113 => ((impl_SightsOf.f k bt113.1 bt113.2 a1).bind fun bt120 => ((laws_eqSightS.f bt120.1 bt109.1).bind fun t124 => (if t124 = true then (laws_FnExactSightsOf.j0 k a1 bt109.1 bt109.2 bt120.1 bt120.2 (bt120.2 != bt109.2) l0_0 l0_1 bt113.1 bt113.2) else (laws_FnExactSightsOf.j0 k a1 bt109.1 bt109.2 bt120.1 bt120.2 true l0_0 l0_1 bt113.1 bt113.2))))))))) = some r := h;clear h;replace H := Option.bind_eq_some_iff.mp H;obtain ⟨t102,A30,H⟩ := H;replace H : (if t102 < 0 then (some true) else ((laws_toCode.f k l0_0 l0_1).bind fun bt103 => ((spec_SightsOf.f k bt103.1 bt103.2 a1).bind fun bt109 => ((laws_toCode.f k l0_0 l0_1).bind fun bt113 => ((impl_SightsOf.f k bt113.1 bt113.2 a1).bind fun bt120 => ((laws_eqSightS.f bt120.1 bt109.1).bind fun t124 => (if t124 = true then (laws_FnExactSightsOf.j0 k a1 bt109.1 bt109.2 bt120.1 bt120.2 (bt120.2 != bt109.2) l0_0 l0_1 bt113.1 bt113.2) else (laws_FnExactSightsOf.j0 k a1 bt109.1 bt109.2 bt120.1 bt120.2 true l0_0 l0_1 bt113.1 bt113.2)))))))) = some r := H;have A3 := Aside0.mk A30;clear A30
 by_cases c4 : t102 < 0
 ·rw [if_pos c4] at H;have c4b0 : decide (t102 < 0) = true := decide_eq_true c4;clear c4;obtain rfl := Option.some.inj H
  go_enter Try.func3,Try.ntmps3
  go_wp2_with (first | ((with_reducible refine gate_dst (N := 2) rfl ?_);refine box_event ?hg (N := 2) ?hd (cs := #[.slice A0_0 l0_0.length c0_0,.slice A0_1 l0_1.length c0_1]) (t := 25) ?hr ?_;(case hd => rfl);(case hg => rfl);(case hr => first | (go_simp;done) | (go_simp;rfl));intro gb101 hg w5 hbox hb;have n0_ := Aside0.mk (below_step (by repeat (first | (with_reducible first | exact HB.out | apply below_alloc | apply pw_below_drewN | apply below_drew1) | exact HB.out)) hb);have n1_ := Aside0.mk (hbox);have n2_ := Aside0.mk ((by rw [hg];exact (below_size (by repeat (first | (with_reducible first | exact HB.out | apply below_alloc | apply pw_below_drewN | apply below_drew1) | exact HB.out))) : w.heap.size ≤ gb101));have n3_ := Aside0.mk ((by rw [hg];exact (below_size (by repeat (first | (with_reducible first | exact HB.out | apply below_alloc | apply pw_below_drewN | apply below_drew1) | exact HB.out))) : w.heap.size ≤ gb101));clear HB;have HB := n0_;have BK101 := n1_;have GW101 := n2_;have GE101 := n3_;clear n0_ n1_ n2_ n3_;clear hb hbox hg;have hcz6_0 : w5.cell? ⟨gb101,0,none⟩ = some (.slice A0_0 l0_0.length c0_0) := (blk_cell BK101.out 0).trans rfl;have hcz6_1 : w5.cell? ⟨gb101,1,none⟩ = some (.slice A0_1 l0_1.length c0_1) := (blk_cell BK101.out 1).trans rfl;have hfz6_0 := blk_frozen BK101.out 0;have hfz6_1 := blk_frozen BK101.out 1) | ((with_reducible refine gate_callee (f := 8) rfl ?_);refine goesL_ (some 18) rfl rfl Try.func8 (by kernel_rfl) rfl #[.agg #[.slice A0_0 l0_0.length c0_0,.slice A0_1 l0_1.length c0_1],.int .i64 1048576] rfl (by (try simp only [List.map_toArray,List.map_cons,List.map_nil]);first | done | rfl | (simp only [List.length_drop,List.length_take];rfl)) ?_;(with_reducible refine (laws_szCode.calls k _ _ l0_0 _ _ l0_1 1048576 t102 _ ?side1 ?side2 ?side3 ?side4 A3.out).mono ?_);(case side1 => repeat (first | exact (Kd.C_below HR0_0.out HB.out) | (with_reducible refine Kd.C_alloc ?_ _) | (with_reducible refine Kd.C_drewN ?_ _) | (with_reducible refine Kd.C_drew ?_)));(case side2 => exact HC0_0.out);(case side3 => repeat (first | exact (Kd.C_below HR0_1.out HB.out) | (with_reducible refine Kd.C_alloc ?_ _) | (with_reducible refine Kd.C_drewN ?_ _) | (with_reducible refine Kd.C_drew ?_)));(case side4 => exact HC0_1.out);rintro e w7 ⟨rfl,hb⟩;refine ⟨_,rfl,?_⟩;have n0_ := Aside0.mk (blk_below (g := gb101) (o := .cells #[.slice A0_0 l0_0.length c0_0,.slice A0_1 l0_1.length c0_1] 25 (0,0)) (by (with_reducible repeat (first | refine blk_drewN ?_ _ | refine blk_drew ?_ | refine blk_alloc ?_ _));exact BK101.out) hb);have n1_ := Aside0.mk (below_step (by repeat (first | (with_reducible first | exact HB.out | apply below_alloc | apply pw_below_drewN | apply below_drew1 | refine below_set ?_ GE101.out) | exact HB.out)) hb);clear BK101;clear HB;have BK101 := n0_;have HB := n1_;clear n0_ n1_;(try clear hb);(try clear hb2);(try clear hk);(try clear hi)))
  go_ret
  exact ⟨by first | rfl | (simp [errW_none,errW_some,IntKind.wrap_i64,wrap64];done) | (simp [errW_none,errW_some] <;> rfl) | (simp [*,errW_none,errW_some] <;> rfl),by repeat (first | (with_reducible first | exact HB.out | apply below_alloc | apply pw_below_drewN | apply below_drew1 | refine below_set ?_ GE101.out) | exact HB.out)⟩
 ·rw [if_neg c4] at H;have c4b0 : decide (t102 < 0) = false := decide_eq_false c4;clear c4;replace H := Option.bind_eq_some_iff.mp H;obtain ⟨⟨t103,t106⟩,A80,H⟩ := H;replace H : ((spec_SightsOf.f k t103 t106 a1).bind fun bt109 => ((laws_toCode.f k l0_0 l0_1).bind fun bt113 => ((impl_SightsOf.f k bt113.1 bt113.2 a1).bind fun bt120 => ((laws_eqSightS.f bt120.1 bt109.1).bind fun t124 => (if t124 = true then (laws_FnExactSightsOf.j0 k a1 bt109.1 bt109.2 bt120.1 bt120.2 (bt120.2 != bt109.2) l0_0 l0_1 bt113.1 bt113.2) else (laws_FnExactSightsOf.j0 k a1 bt109.1 bt109.2 bt120.1 bt120.2 true l0_0 l0_1 bt113.1 bt113.2)))))) = some r := H;have A8 := Aside0.mk A80;clear A80;replace H := Option.bind_eq_some_iff.mp H;obtain ⟨⟨t109,t112⟩,A90,H⟩ := H;replace H : ((laws_toCode.f k l0_0 l0_1).bind fun bt113 => ((impl_SightsOf.f k bt113.1 bt113.2 a1).bind fun bt120 => ((laws_eqSightS.f bt120.1 t109).bind fun t124 => (if t124 = true then (laws_FnExactSightsOf.j0 k a1 t109 t112 bt120.1 bt120.2 (bt120.2 != t112) l0_0 l0_1 bt113.1 bt113.2) else (laws_FnExactSightsOf.j0 k a1 t109 t112 bt120.1 bt120.2 true l0_0 l0_1 bt113.1 bt113.2))))) = some r := H;have A9 := Aside0.mk A90;clear A90;replace H := Option.bind_eq_some_iff.mp H;obtain ⟨⟨t113,t116⟩,A100,H⟩ := H;replace H : ((impl_SightsOf.f k t113 t116 a1).bind fun bt120 => ((laws_eqSightS.f bt120.1 t109).bind fun t124 => (if t124 = true then (laws_FnExactSightsOf.j0 k a1 t109 t112 bt120.1 bt120.2 (bt120.2 != t112) l0_0 l0_1 t113 t116) else (laws_FnExactSightsOf.j0 k a1 t109 t112 bt120.1 bt120.2 true l0_0 l0_1 t113 t116)))) = some r := H;have A10 := Aside0.mk A100;clear A100;replace H := Option.bind_eq_some_iff.mp H;obtain ⟨⟨t120,t123⟩,A110,H⟩ := H;replace H : ((laws_eqSightS.f t120 t109).bind fun t124 => (if t124 = true then (laws_FnExactSightsOf.j0 k a1 t109 t112 t120 t123 (t123 != t112) l0_0 l0_1 t113 t116) else (laws_FnExactSightsOf.j0 k a1 t109 t112 t120 t123 true l0_0 l0_1 t113 t116))) = some r := H;have A11 := Aside0.mk A110;clear A110;have HC12 := Aside0.mk H;clear H
  go_enter Try.func3,Try.ntmps3
  go_upto_region 8 with (first | ((with_reducible refine gate_dst (N := 2) rfl ?_);refine box_event ?hg (N := 2) ?hd (cs := #[.slice A0_0 l0_0.length c0_0,.slice A0_1 l0_1.length c0_1]) (t := 25) ?hr ?_;(case hd => rfl);(case hg => rfl);(case hr => first | (go_simp;done) | (go_simp;rfl));intro gb101 hg w13 hbox hb;have n0_ := Aside0.mk (below_step (by repeat (first | (with_reducible first | exact HB.out | apply below_alloc | apply pw_below_drewN | apply below_drew1) | exact HB.out)) hb);have n1_ := Aside0.mk (hbox);have n2_ := Aside0.mk ((by rw [hg];exact (below_size (by repeat (first | (with_reducible first | exact HB.out | apply below_alloc | apply pw_below_drewN | apply below_drew1) | exact HB.out))) : w.heap.size ≤ gb101));have n3_ := Aside0.mk ((by rw [hg];exact (below_size (by repeat (first | (with_reducible first | exact HB.out | apply below_alloc | apply pw_below_drewN | apply below_drew1) | exact HB.out))) : w.heap.size ≤ gb101));clear HB;have HB := n0_;have BK101 := n1_;have GW101 := n2_;have GE101 := n3_;clear n0_ n1_ n2_ n3_;clear hb hbox hg;have hcz14_0 : w13.cell? ⟨gb101,0,none⟩ = some (.slice A0_0 l0_0.length c0_0) := (blk_cell BK101.out 0).trans rfl;have hcz14_1 : w13.cell? ⟨gb101,1,none⟩ = some (.slice A0_1 l0_1.length c0_1) := (blk_cell BK101.out 1).trans rfl;have hfz14_0 := blk_frozen BK101.out 0;have hfz14_1 := blk_frozen BK101.out 1) | ((with_reducible refine gate_callee (f := 8) rfl ?_);refine goesL_ (some 18) rfl rfl Try.func8 (by kernel_rfl) rfl #[.agg #[.slice A0_0 l0_0.length c0_0,.slice A0_1 l0_1.length c0_1],.int .i64 1048576] rfl (by (try simp only [List.map_toArray,List.map_cons,List.map_nil]);first | done | rfl | (simp only [List.length_drop,List.length_take];rfl)) ?_;(with_reducible refine (laws_szCode.calls k _ _ l0_0 _ _ l0_1 1048576 t102 _ ?side1 ?side2 ?side3 ?side4 A3.out).mono ?_);(case side1 => repeat (first | exact (Kd.C_below HR0_0.out HB.out) | (with_reducible refine Kd.C_alloc ?_ _) | (with_reducible refine Kd.C_drewN ?_ _) | (with_reducible refine Kd.C_drew ?_)));(case side2 => exact HC0_0.out);(case side3 => repeat (first | exact (Kd.C_below HR0_1.out HB.out) | (with_reducible refine Kd.C_alloc ?_ _) | (with_reducible refine Kd.C_drewN ?_ _) | (with_reducible refine Kd.C_drew ?_)));(case side4 => exact HC0_1.out);rintro e w15 ⟨rfl,hb⟩;refine ⟨_,rfl,?_⟩;have n0_ := Aside0.mk (blk_below (g := gb101) (o := .cells #[.slice A0_0 l0_0.length c0_0,.slice A0_1 l0_1.length c0_1] 25 (0,0)) (by (with_reducible repeat (first | refine blk_drewN ?_ _ | refine blk_drew ?_ | refine blk_alloc ?_ _));exact BK101.out) hb);have n1_ := Aside0.mk (below_step (by repeat (first | (with_reducible first | exact HB.out | apply below_alloc | apply pw_below_drewN | apply below_drew1 | refine below_set ?_ GE101.out) | exact HB.out)) hb);clear BK101;clear HB;have BK101 := n0_;have HB := n1_;clear n0_ n1_;(try clear hb);(try clear hb2);(try clear hk);(try clear hi);have hcz16_0 : w15.cell? ⟨gb101,0,none⟩ = some (.slice A0_0 l0_0.length c0_0) := (blk_cell BK101.out 0).trans rfl;have hcz16_1 : w15.cell? ⟨gb101,1,none⟩ = some (.slice A0_1 l0_1.length c0_1) := (blk_cell BK101.out 1).trans rfl;have hfz16_0 := blk_frozen BK101.out 0;have hfz16_1 := blk_frozen BK101.out 1) | ((with_reducible refine gate_callee (f := 10) rfl ?_);refine goesL_ (some 23) rfl rfl Try.func10 (by kernel_rfl) rfl #[.agg #[.slice A0_0 l0_0.length c0_0,.slice A0_1 l0_1.length c0_1]] rfl (by (try simp only [List.map_toArray,List.map_cons,List.map_nil]);first | done | rfl | (simp only [List.length_drop,List.length_take];rfl)) ?_;(with_reducible refine (laws_toCode.calls k _ _ l0_0 _ _ l0_1 t103 t106 _ ?side1 ?side2 ?side3 ?side4 A8.out).mono ?_);(case side1 => repeat (first | exact (Kd.C_below HR0_0.out HB.out) | (with_reducible refine Kd.C_alloc ?_ _) | (with_reducible refine Kd.C_drewN ?_ _) | (with_reducible refine Kd.C_drew ?_)));(case side2 => exact HC0_0.out);(case side3 => repeat (first | exact (Kd.C_below HR0_1.out HB.out) | (with_reducible refine Kd.C_alloc ?_ _) | (with_reducible refine Kd.C_drewN ?_ _) | (with_reducible refine Kd.C_drew ?_)));(case side4 => exact HC0_1.out);rintro e w17 ⟨v104,v107,rfl,ho0,ho1,hb⟩;refine ⟨_,rfl,?_⟩;have n0_ := Aside0.mk (Kd.R_lower ho0 (below_size (by repeat (first | (with_reducible first | exact HB.out | apply below_alloc | apply pw_below_drewN | apply below_drew1 | refine below_set ?_ GE101.out) | exact HB.out))));have n1_ := Aside0.mk (Kd.S_lower ho1 (below_size (by repeat (first | (with_reducible first | exact HB.out | apply below_alloc | apply pw_below_drewN | apply below_drew1 | refine below_set ?_ GE101.out) | exact HB.out))));have n2_ := Aside0.mk (blk_below (g := gb101) (o := .cells #[.slice A0_0 l0_0.length c0_0,.slice A0_1 l0_1.length c0_1] 25 (0,0)) (by (with_reducible repeat (first | refine blk_drewN ?_ _ | refine blk_drew ?_ | refine blk_alloc ?_ _));exact BK101.out) hb);have n3_ := Aside0.mk (below_step (by repeat (first | (with_reducible first | exact HB.out | apply below_alloc | apply pw_below_drewN | apply below_drew1 | refine below_set ?_ GE101.out) | exact HB.out)) hb);clear BK101;clear HB;have HO105 := n0_;have HO108 := n1_;have BK101 := n2_;have HB := n3_;clear n0_ n1_ n2_ n3_;(try clear hb);(try clear hb2);(try clear hk);(try clear hi);(try clear ho0);(try clear ho1);obtain ⟨Ao18,co18,eo18⟩ := Kd.R_slice HO105.out;subst eo18;obtain ⟨Ao19,co19,eo19⟩ := Kd.S_slice HO108.out;subst eo19) | ((with_reducible refine gate_callee (f := 9) rfl ?_);refine goesL_ (some 25) rfl rfl Try.func9 (by kernel_rfl) rfl #[.agg #[.slice Ao18 t103.length co18,.slice Ao19 t106.length co19],.int .i64 a1] rfl (by (try simp only [List.map_toArray,List.map_cons,List.map_nil]);first | done | rfl | (simp only [List.length_drop,List.length_take];rfl)) ?_;(with_reducible refine (spec_SightsOf.calls k _ _ t103 _ _ t106 a1 t109 t112 _ ?side1 ?side2 ?side3 ?side4 A9.out).mono ?_);(case side1 => repeat (first | exact (Kd.R_reads' HO105.out).2.2 | (with_reducible refine Kd.C_alloc ?_ _) | (with_reducible refine Kd.C_drewN ?_ _) | (with_reducible refine Kd.C_drew ?_)));(case side2 => exact (Kd.R_reads' HO105.out).2.1);(case side3 => repeat (first | exact (Kd.S_reads' HO108.out).2.2 | (with_reducible refine Kd.C_alloc ?_ _) | (with_reducible refine Kd.C_drewN ?_ _) | (with_reducible refine Kd.C_drew ?_)));(case side4 => exact (Kd.S_reads' HO108.out).2.1);rintro e w20 ⟨v110,rfl,ho0,hb⟩;refine ⟨_,rfl,?_⟩;have n0_ := Aside0.mk (Kd.R_below (by (with_reducible repeat (first | apply Kd.R_alloc | apply Kd.R_drewN | apply Kd.R_drew));exact HO105.out) hb);have n1_ := Aside0.mk (Kd.S_below (by (with_reducible repeat (first | apply Kd.S_alloc | apply Kd.S_drewN | apply Kd.S_drew));exact HO108.out) hb);have n2_ := Aside0.mk (Kd.R_lower ho0 (below_size (by repeat (first | (with_reducible first | exact HB.out | apply below_alloc | apply pw_below_drewN | apply below_drew1 | refine below_set ?_ GE101.out) | exact HB.out))));have n3_ := Aside0.mk (blk_below (g := gb101) (o := .cells #[.slice A0_0 l0_0.length c0_0,.slice A0_1 l0_1.length c0_1] 25 (0,0)) (by (with_reducible repeat (first | refine blk_drewN ?_ _ | refine blk_drew ?_ | refine blk_alloc ?_ _));exact BK101.out) hb);have n4_ := Aside0.mk (below_step (by repeat (first | (with_reducible first | exact HB.out | apply below_alloc | apply pw_below_drewN | apply below_drew1 | refine below_set ?_ GE101.out) | exact HB.out)) hb);clear HO105;clear HO108;clear BK101;clear HB;have HO105 := n0_;have HO108 := n1_;have HO111 := n2_;have BK101 := n3_;have HB := n4_;clear n0_ n1_ n2_ n3_ n4_;(try clear hb);(try clear hb2);(try clear hk);(try clear hi);(try clear ho0);have hcz21_0 : w20.cell? ⟨gb101,0,none⟩ = some (.slice A0_0 l0_0.length c0_0) := (blk_cell BK101.out 0).trans rfl;have hcz21_1 : w20.cell? ⟨gb101,1,none⟩ = some (.slice A0_1 l0_1.length c0_1) := (blk_cell BK101.out 1).trans rfl;have hfz21_0 := blk_frozen BK101.out 0;have hfz21_1 := blk_frozen BK101.out 1) | ((with_reducible refine gate_callee (f := 10) rfl ?_);refine goesL_ (some 29) rfl rfl Try.func10 (by kernel_rfl) rfl #[.agg #[.slice A0_0 l0_0.length c0_0,.slice A0_1 l0_1.length c0_1]] rfl (by (try simp only [List.map_toArray,List.map_cons,List.map_nil]);first | done | rfl | (simp only [List.length_drop,List.length_take];rfl)) ?_;(with_reducible refine (laws_toCode.calls k _ _ l0_0 _ _ l0_1 t113 t116 _ ?side1 ?side2 ?side3 ?side4 A10.out).mono ?_);(case side1 => repeat (first | exact (Kd.C_below HR0_0.out HB.out) | (with_reducible refine Kd.C_alloc ?_ _) | (with_reducible refine Kd.C_drewN ?_ _) | (with_reducible refine Kd.C_drew ?_)));(case side2 => exact HC0_0.out);(case side3 => repeat (first | exact (Kd.C_below HR0_1.out HB.out) | (with_reducible refine Kd.C_alloc ?_ _) | (with_reducible refine Kd.C_drewN ?_ _) | (with_reducible refine Kd.C_drew ?_)));(case side4 => exact HC0_1.out);rintro e w22 ⟨v114,v117,rfl,ho0,ho1,hb⟩;refine ⟨_,rfl,?_⟩;have n0_ := Aside0.mk (Kd.R_elder' (by (with_reducible repeat (first | apply Kd.R_alloc | apply Kd.R_drewN | apply Kd.R_drew));exact HO105.out) (Kd.R_base ho0) hb);have n1_ := Aside0.mk (Kd.S_elder' (by (with_reducible repeat (first | apply Kd.S_alloc | apply Kd.S_drewN | apply Kd.S_drew));exact HO108.out) (Kd.S_base ho1) hb);have n2_ := Aside0.mk (Kd.R_below (by (with_reducible repeat (first | apply Kd.R_alloc | apply Kd.R_drewN | apply Kd.R_drew));exact HO111.out) hb);have n3_ := Aside0.mk (Kd.R_lower (Kd.R_new' ho0 (Kd.R_lt (by (with_reducible repeat (first | apply Kd.R_alloc | apply Kd.R_drewN | apply Kd.R_drew));exact HO105.out))) (below_size (by repeat (first | (with_reducible first | exact HB.out | apply below_alloc | apply pw_below_drewN | apply below_drew1 | refine below_set ?_ GE101.out) | exact HB.out))));have n4_ := Aside0.mk (Kd.S_lower (Kd.S_new' ho1 (Kd.S_lt (by (with_reducible repeat (first | apply Kd.S_alloc | apply Kd.S_drewN | apply Kd.S_drew));exact HO108.out))) (below_size (by repeat (first | (with_reducible first | exact HB.out | apply below_alloc | apply pw_below_drewN | apply below_drew1 | refine below_set ?_ GE101.out) | exact HB.out))));have n5_ := Aside0.mk (blk_below (g := gb101) (o := .cells #[.slice A0_0 l0_0.length c0_0,.slice A0_1 l0_1.length c0_1] 25 (0,0)) (by (with_reducible repeat (first | refine blk_drewN ?_ _ | refine blk_drew ?_ | refine blk_alloc ?_ _));exact BK101.out) hb);have n6_ := Aside0.mk (below_step (by repeat (first | (with_reducible first | exact HB.out | apply below_alloc | apply pw_below_drewN | apply below_drew1 | refine below_set ?_ GE101.out) | exact HB.out)) hb);clear HO105;clear HO108;clear HO111;clear BK101;clear HB;have HO105 := n0_;have HO108 := n1_;have HO111 := n2_;have HO115 := n3_;have HO118 := n4_;have BK101 := n5_;have HB := n6_;clear n0_ n1_ n2_ n3_ n4_ n5_ n6_;(try clear hb);(try clear hb2);(try clear hk);(try clear hi);(try clear ho0);(try clear ho1)) | ((with_reducible refine gate_dst (N := 8) rfl ?_);refine box_event ?hg (N := 8) ?hd (cs := #[.slice none 0 0,.slice none 0 0]) (t := 33) ?hr ?_;(case hd => rfl);(case hg => rfl);(case hr => first | (go_simp;done) | (go_simp;rfl));intro gb119 hg w23 hbox hb;have n0_ := Aside0.mk (Kd.R_below (by (with_reducible repeat (first | apply Kd.R_alloc | apply Kd.R_drewN | apply Kd.R_drew));exact HO105.out) hb);have n1_ := Aside0.mk (Kd.S_below (by (with_reducible repeat (first | apply Kd.S_alloc | apply Kd.S_drewN | apply Kd.S_drew));exact HO108.out) hb);have n2_ := Aside0.mk (Kd.R_below (by (with_reducible repeat (first | apply Kd.R_alloc | apply Kd.R_drewN | apply Kd.R_drew));exact HO111.out) hb);have n3_ := Aside0.mk (Kd.R_below (by (with_reducible repeat (first | apply Kd.R_alloc | apply Kd.R_drewN | apply Kd.R_drew));exact HO115.out) hb);have n4_ := Aside0.mk (Kd.S_below (by (with_reducible repeat (first | apply Kd.S_alloc | apply Kd.S_drewN | apply Kd.S_drew));exact HO118.out) hb);have n5_ := Aside0.mk (blk_below (g := gb101) (o := .cells #[.slice A0_0 l0_0.length c0_0,.slice A0_1 l0_1.length c0_1] 25 (0,0)) (by (with_reducible repeat (first | refine blk_drewN ?_ _ | refine blk_drew ?_ | refine blk_alloc ?_ _));exact BK101.out) hb);have n6_ := Aside0.mk (below_step (by repeat (first | (with_reducible first | exact HB.out | apply below_alloc | apply pw_below_drewN | apply below_drew1 | refine below_set ?_ GE101.out) | exact HB.out)) hb);have n7_ := Aside0.mk (hbox);have n8_ := Aside0.mk ((by rw [hg];exact (below_size (by repeat (first | (with_reducible first | exact HB.out | apply below_alloc | apply pw_below_drewN | apply below_drew1 | refine below_set ?_ GE101.out) | exact HB.out))) : w.heap.size ≤ gb119));have n9_ := Aside0.mk ((by rw [hg];exact (below_size (by repeat (first | (with_reducible first | exact HB.out | apply below_alloc | apply pw_below_drewN | apply below_drew1 | refine below_set ?_ GE101.out) | exact HB.out))) : w.heap.size ≤ gb119));have n10_ := Aside0.mk ((by rw [hg];exact Nat.ne_of_lt (blk_lt (g := gb101) (o := .cells #[.slice A0_0 l0_0.length c0_0,.slice A0_1 l0_1.length c0_1] 25 (0,0)) (by (with_reducible repeat (first | refine blk_drewN ?_ _ | refine blk_drew ?_ | refine blk_alloc ?_ _));exact BK101.out)) : gb101 ≠ gb119));have n11_ := Aside0.mk ((by rw [hg];exact Nat.ne_of_gt (blk_lt (g := gb101) (o := .cells #[.slice A0_0 l0_0.length c0_0,.slice A0_1 l0_1.length c0_1] 25 (0,0)) (by (with_reducible repeat (first | refine blk_drewN ?_ _ | refine blk_drew ?_ | refine blk_alloc ?_ _));exact BK101.out)) : gb119 ≠ gb101));clear HO105;clear HO108;clear HO111;clear HO115;clear HO118;clear BK101;clear HB;have HO105 := n0_;have HO108 := n1_;have HO111 := n2_;have HO115 := n3_;have HO118 := n4_;have BK101 := n5_;have HB := n6_;have BK119 := n7_;have GW119 := n8_;have GE119 := n9_;have NB101_119 := n10_;have NB119_101 := n11_;clear n0_ n1_ n2_ n3_ n4_ n5_ n6_ n7_ n8_ n9_ n10_ n11_;clear hb hbox hg;obtain ⟨Ao24,co24,eo24⟩ := Kd.R_slice HO115.out;subst eo24;have hnb25 := NB119_101.out;have hnc25 := NB101_119.out;have hcz26_0 : w23.cell? ⟨gb119,0,none⟩ = some (.slice none 0 0) := (blk_cell BK119.out 0).trans rfl;have hcz26_1 : w23.cell? ⟨gb119,1,none⟩ = some (.slice none 0 0) := (blk_cell BK119.out 1).trans rfl;have hfz26_0 := blk_frozen BK119.out 0;have hfz26_1 := blk_frozen BK119.out 1;obtain ⟨Ao27,co27,eo27⟩ := Kd.S_slice HO118.out;subst eo27) | ((with_reducible refine gate_callee (f := 11) rfl ?_);refine goesL_ (some 33) rfl rfl Try.func11 (by kernel_rfl) rfl #[.agg #[.slice Ao24 t113.length co24,.slice Ao27 t116.length co27],.int .i64 a1] rfl (by (try simp only [List.map_toArray,List.map_cons,List.map_nil]);first | done | rfl | (simp only [List.length_drop,List.length_take];rfl)) ?_;(with_reducible refine (impl_SightsOf.calls k _ _ t113 _ _ t116 a1 t120 t123 _ ?side1 ?side2 ?side3 ?side4 A11.out).mono ?_);(case side1 => refine (Kd.R_reads' (e := 68) (base := w.heap.size) (ok := fun k_ => (True ∧ some k_ ≠ (.slice Ao18 t103.length co18 : Value).ownBlock)) (n := t113.length) (c := co24) ?_).2.2;exact (by (with_reducible repeat (first | apply Kd.R_alloc | apply Kd.R_drewN | apply Kd.R_drew));exact (Kd.R_mono (Kd.R_far (p := ⟨gb119,1,none⟩) (Kd.R_far (p := ⟨gb119,0,none⟩) (Kd.R_types HO115.out BK119.out (by decide)) (fun _ hk => hk.2) (.slice Ao24 t113.length co24)) (fun _ hk => hk.2) (.slice Ao27 t116.length co27)) (fun _ h_ => h_.1))));(case side2 => exact (Kd.R_reads' HO115.out).2.1);(case side3 => refine (Kd.S_reads' (e := 79) (base := w.heap.size) (ok := fun k_ => (True ∧ some k_ ≠ (.slice Ao19 t106.length co19 : Value).ownBlock)) (n := t116.length) (c := co27) ?_).2.2;exact (by (with_reducible repeat (first | apply Kd.S_alloc | apply Kd.S_drewN | apply Kd.S_drew));exact (Kd.S_mono (Kd.S_far (p := ⟨gb119,1,none⟩) (Kd.S_far (p := ⟨gb119,0,none⟩) (Kd.S_types HO118.out BK119.out (by decide)) (fun _ hk => hk.2) (.slice Ao24 t113.length co24)) (fun _ hk => hk.2) (.slice Ao27 t116.length co27)) (fun _ h_ => h_.1))));(case side4 => exact (Kd.S_reads' HO118.out).2.1);rintro e w28 ⟨v121,rfl,ho0,hb⟩;refine ⟨_,rfl,?_⟩;have n0_ := Aside0.mk (Kd.R_below (by (with_reducible repeat (first | apply Kd.R_alloc | apply Kd.R_drewN | apply Kd.R_drew));exact (Kd.R_mono (Kd.R_far (p := ⟨gb119,1,none⟩) (Kd.R_far (p := ⟨gb119,0,none⟩) (Kd.R_types HO105.out BK119.out (by decide)) (fun _ hk => hk.2) (.slice Ao24 t113.length co24)) (fun _ hk => hk.2) (.slice Ao27 t116.length co27)) (fun _ h_ => h_.1))) hb);have n1_ := Aside0.mk (Kd.S_below (by (with_reducible repeat (first | apply Kd.S_alloc | apply Kd.S_drewN | apply Kd.S_drew));exact (Kd.S_mono (Kd.S_far (p := ⟨gb119,1,none⟩) (Kd.S_far (p := ⟨gb119,0,none⟩) (Kd.S_types HO108.out BK119.out (by decide)) (fun _ hk => hk.2) (.slice Ao24 t113.length co24)) (fun _ hk => hk.2) (.slice Ao27 t116.length co27)) (fun _ h_ => h_.1))) hb);have n2_ := Aside0.mk (Kd.R_elder' (by (with_reducible repeat (first | apply Kd.R_alloc | apply Kd.R_drewN | apply Kd.R_drew));exact (Kd.R_mono (Kd.R_far (p := ⟨gb119,1,none⟩) (Kd.R_far (p := ⟨gb119,0,none⟩) (Kd.R_types HO111.out BK119.out (by decide)) (fun _ hk => hk.2) (.slice Ao24 t113.length co24)) (fun _ hk => hk.2) (.slice Ao27 t116.length co27)) (fun _ h_ => h_.1))) (Kd.R_base ho0) hb);have n3_ := Aside0.mk (Kd.R_below (by (with_reducible repeat (first | apply Kd.R_alloc | apply Kd.R_drewN | apply Kd.R_drew));exact (Kd.R_mono (Kd.R_far (p := ⟨gb119,1,none⟩) (Kd.R_far (p := ⟨gb119,0,none⟩) (Kd.R_types HO115.out BK119.out (by decide)) (fun _ hk => hk.2) (.slice Ao24 t113.length co24)) (fun _ hk => hk.2) (.slice Ao27 t116.length co27)) (fun _ h_ => h_.1))) hb);have n4_ := Aside0.mk (Kd.S_below (by (with_reducible repeat (first | apply Kd.S_alloc | apply Kd.S_drewN | apply Kd.S_drew));exact (Kd.S_mono (Kd.S_far (p := ⟨gb119,1,none⟩) (Kd.S_far (p := ⟨gb119,0,none⟩) (Kd.S_types HO118.out BK119.out (by decide)) (fun _ hk => hk.2) (.slice Ao24 t113.length co24)) (fun _ hk => hk.2) (.slice Ao27 t116.length co27)) (fun _ h_ => h_.1))) hb);have n5_ := Aside0.mk (Kd.R_lower (Kd.R_new' ho0 (Kd.R_lt (by (with_reducible repeat (first | apply Kd.R_alloc | apply Kd.R_drewN | apply Kd.R_drew));exact (Kd.R_mono (Kd.R_far (p := ⟨gb119,1,none⟩) (Kd.R_far (p := ⟨gb119,0,none⟩) (Kd.R_types HO111.out BK119.out (by decide)) (fun _ hk => hk.2) (.slice Ao24 t113.length co24)) (fun _ hk => hk.2) (.slice Ao27 t116.length co27)) (fun _ h_ => h_.1))))) (below_size (by repeat (first | (with_reducible first | exact HB.out | apply below_alloc | apply pw_below_drewN | apply below_drew1 | refine below_set ?_ GE101.out | refine below_set ?_ GE119.out) | exact HB.out))));have n6_ := Aside0.mk (blk_below (g := gb101) (o := .cells #[.slice A0_0 l0_0.length c0_0,.slice A0_1 l0_1.length c0_1] 25 (0,0)) (by (with_reducible repeat (first | refine blk_drewN ?_ _ | refine blk_drew ?_ | refine blk_alloc ?_ _));refine blk_far ?_ NB101_119.out _;(with_reducible repeat (first | refine blk_drewN ?_ _ | refine blk_drew ?_ | refine blk_alloc ?_ _));refine blk_far ?_ NB101_119.out _;(with_reducible repeat (first | refine blk_drewN ?_ _ | refine blk_drew ?_ | refine blk_alloc ?_ _));exact BK101.out) hb);have n7_ := Aside0.mk (blk_below (g := gb119) (o := .cells #[.slice Ao24 t113.length co24,.slice Ao27 t116.length co27] 33 (0,0)) (by (with_reducible repeat (first | refine blk_drewN ?_ _ | refine blk_drew ?_ | refine blk_alloc ?_ _));refine blk_put (cs := #[.slice Ao24 t113.length co24,.slice none 0 0]) ?_ 1 _ rfl;(with_reducible repeat (first | refine blk_drewN ?_ _ | refine blk_drew ?_ | refine blk_alloc ?_ _));refine blk_put (cs := #[.slice none 0 0,.slice none 0 0]) ?_ 0 _ rfl;(with_reducible repeat (first | refine blk_drewN ?_ _ | refine blk_drew ?_ | refine blk_alloc ?_ _));exact BK119.out) hb);have n8_ := Aside0.mk (below_step (by repeat (first | (with_reducible first | exact HB.out | apply below_alloc | apply pw_below_drewN | apply below_drew1 | refine below_set ?_ GE101.out | refine below_set ?_ GE119.out) | exact HB.out)) hb);clear HO105;clear HO108;clear HO111;clear HO115;clear HO118;clear BK101;clear BK119;clear HB;have HO105 := n0_;have HO108 := n1_;have HO111 := n2_;have HO115 := n3_;have HO118 := n4_;have HO122 := n5_;have BK101 := n6_;have BK119 := n7_;have HB := n8_;clear n0_ n1_ n2_ n3_ n4_ n5_ n6_ n7_ n8_;(try clear hb);(try clear hb2);(try clear hk);(try clear hi);(try clear ho0)))
  (try simp only [Act.put,List.setIfInBounds_toArray,List.set_cons_zero,List.set_cons_succ])
  go_cut [44] (fun v44 wc => ∃ (kq : Nat) (x44_11 : Bool),v44 = .bool x44_11 ∧ Aside0 (laws_FnExactSightsOf.j0 kq a1 t109 t112 t120 t123 x44_11 l0_0 l0_1 t113 t116 = some r) ∧ Aside0 (kq ≤ k) ∧ Aside0 (Kd.R k61 61 wc w.heap.size (fun k_ => some k_ ≠ (v121 : Value).ownBlock) v110 t109) ∧ Aside0 (Kd.R k61 61 wc w.heap.size (fun k_ => some k_ ≠ (v110 : Value).ownBlock) v121 t120) ∧ Aside0 (Kd.R k68 68 wc w.heap.size (fun _ => True) (.slice Ao24 t113.length co24) t113) ∧ Aside0 (Kd.S (Kd.slice 5 (Kd.int .u8)) 79 wc w.heap.size (fun _ => True) (.slice Ao27 t116.length co27) t116) ∧ Aside0 (wc.heap[gb101]? = some (.cells #[(.slice A0_0 l0_0.length c0_0),(.slice A0_1 l0_1.length c0_1)] 25 (0,0))) ∧ Aside0 (wc.heap[gb119]? = some (.cells #[(.slice Ao24 t113.length co24),(.slice Ao27 t116.length co27)] 33 (0,0))) ∧ Aside0 (Below w.heap.size w wc))
  case first =>
   have H := HC12.out;clear HC12;replace H := Option.bind_eq_some_iff.mp H;obtain ⟨t124,A290,H⟩ := H;replace H : (if t124 = true then (laws_FnExactSightsOf.j0 k a1 t109 t112 t120 t123 (t123 != t112) l0_0 l0_1 t113 t116) else (laws_FnExactSightsOf.j0 k a1 t109 t112 t120 t123 true l0_0 l0_1 t113 t116)) = some r := H;have A29 := Aside0.mk A290;clear A290
   by_cases c30 : t124 = true
   ·subst c30
    have H1 : (laws_FnExactSightsOf.j0 k a1 t109 t112 t120 t123 (t123 != t112) l0_0 l0_1 t113 t116) = some r := by rw [if_pos rfl] at H;exact H
    clear H;have H := H1;clear H1;have H' := Aside0.mk H;clear H;obtain ⟨Ao31,co31,eo31⟩ := Kd.R_slice HO122.out;subst eo31;obtain ⟨Ao32,co32,eo32⟩ := Kd.R_slice HO111.out;subst eo32
    go_wp2_with (first | ((with_reducible refine gate_callee (f := 12) rfl ?_);refine goesL_ (some 38) rfl rfl Try.func12 (by kernel_rfl) rfl #[.slice Ao31 t120.length co31,.slice Ao32 t109.length co32] rfl (by (try simp only [List.map_toArray,List.map_cons,List.map_nil]);first | done | rfl | (simp only [List.length_drop,List.length_take];rfl)) ?_;(with_reducible refine (laws_eqSightS.calls _ _ t120 _ _ t109 true _ ?side1 ?side2 ?side3 ?side4 A29.out).mono ?_);(case side1 => repeat (first | exact (Kd.R_reads' HO122.out).2.2 | (with_reducible refine Kd.C_alloc ?_ _) | (with_reducible refine Kd.C_drewN ?_ _) | (with_reducible refine Kd.C_drew ?_)));(case side2 => exact (Kd.R_reads' HO122.out).2.1);(case side3 => repeat (first | exact (Kd.R_reads' HO111.out).2.2 | (with_reducible refine Kd.C_alloc ?_ _) | (with_reducible refine Kd.C_drewN ?_ _) | (with_reducible refine Kd.C_drew ?_)));(case side4 => exact (Kd.R_reads' HO111.out).2.1);rintro e w33 ⟨rfl,hb⟩;refine ⟨_,rfl,?_⟩;have n0_ := Aside0.mk (Kd.R_below (by (with_reducible repeat (first | apply Kd.R_alloc | apply Kd.R_drewN | apply Kd.R_drew));exact HO105.out) hb);have n1_ := Aside0.mk (Kd.S_below (by (with_reducible repeat (first | apply Kd.S_alloc | apply Kd.S_drewN | apply Kd.S_drew));exact HO108.out) hb);have n2_ := Aside0.mk (Kd.R_below (by (with_reducible repeat (first | apply Kd.R_alloc | apply Kd.R_drewN | apply Kd.R_drew));exact HO111.out) hb);have n3_ := Aside0.mk (Kd.R_below (by (with_reducible repeat (first | apply Kd.R_alloc | apply Kd.R_drewN | apply Kd.R_drew));exact HO115.out) hb);have n4_ := Aside0.mk (Kd.S_below (by (with_reducible repeat (first | apply Kd.S_alloc | apply Kd.S_drewN | apply Kd.S_drew));exact HO118.out) hb);have n5_ := Aside0.mk (Kd.R_below (by (with_reducible repeat (first | apply Kd.R_alloc | apply Kd.R_drewN | apply Kd.R_drew));exact HO122.out) hb);have n6_ := Aside0.mk (blk_below (g := gb101) (o := .cells #[.slice A0_0 l0_0.length c0_0,.slice A0_1 l0_1.length c0_1] 25 (0,0)) (by (with_reducible repeat (first | refine blk_drewN ?_ _ | refine blk_drew ?_ | refine blk_alloc ?_ _));exact BK101.out) hb);have n7_ := Aside0.mk (blk_below (g := gb119) (o := .cells #[.slice Ao24 t113.length co24,.slice Ao27 t116.length co27] 33 (0,0)) (by (with_reducible repeat (first | refine blk_drewN ?_ _ | refine blk_drew ?_ | refine blk_alloc ?_ _));exact BK119.out) hb);have n8_ := Aside0.mk (below_step (by repeat (first | (with_reducible first | exact HB.out | apply below_alloc | apply pw_below_drewN | apply below_drew1 | refine below_set ?_ GE101.out | refine below_set ?_ GE119.out) | exact HB.out)) hb);clear HO105;clear HO108;clear HO111;clear HO115;clear HO118;clear HO122;clear BK101;clear BK119;clear HB;have HO105 := n0_;have HO108 := n1_;have HO111 := n2_;have HO115 := n3_;have HO118 := n4_;have HO122 := n5_;have BK101 := n6_;have BK119 := n7_;have HB := n8_;clear n0_ n1_ n2_ n3_ n4_ n5_ n6_ n7_ n8_;(try clear hb);(try clear hb2);(try clear hk);(try clear hi)))
    go_meet
    case rel => exact ⟨_,((t123 != t112)),(by first | rfl | (simp only [IntKind.wrap_i64,wrap64];done) | (simp;done) | (simp [*];done)),H',⟨by first | omega | exact Nat.le_refl _⟩,⟨by (with_reducible repeat (first | apply Kd.R_alloc | apply Kd.R_drewN | apply Kd.R_drew));exact Kd.R_mono HO111.out (fun _ hk => hk.2)⟩,⟨by (with_reducible repeat (first | apply Kd.R_alloc | apply Kd.R_drewN | apply Kd.R_drew));exact Kd.R_mono HO122.out (fun _ hk => hk.2)⟩,⟨by (with_reducible repeat (first | apply Kd.R_alloc | apply Kd.R_drewN | apply Kd.R_drew));exact Kd.R_mono HO115.out (fun _ hk => trivial)⟩,⟨by (with_reducible repeat (first | apply Kd.S_alloc | apply Kd.S_drewN | apply Kd.S_drew));exact Kd.S_mono HO118.out (fun _ hk => trivial)⟩,⟨by (with_reducible repeat (first | refine blk_drewN ?_ _ | refine blk_drew ?_ | refine blk_alloc ?_ _));exact BK101.out⟩,⟨by (with_reducible repeat (first | refine blk_drewN ?_ _ | refine blk_drew ?_ | refine blk_alloc ?_ _));exact BK119.out⟩,⟨by repeat (first | (with_reducible first | exact HB.out | apply below_alloc | apply pw_below_drewN | apply below_drew1 | refine below_set ?_ GE101.out | refine below_set ?_ GE119.out) | exact HB.out)⟩⟩
   ·replace c30 := Bool.eq_false_iff.mpr c30;subst c30
    have H1 : (laws_FnExactSightsOf.j0 k a1 t109 t112 t120 t123 true l0_0 l0_1 t113 t116) = some r := by rw [if_neg (show ¬ (false = true) by decide)] at H;exact H
    clear H;have H := H1;clear H1;have H' := Aside0.mk H;clear H;obtain ⟨Ao34,co34,eo34⟩ := Kd.R_slice HO122.out;subst eo34;obtain ⟨Ao35,co35,eo35⟩ := Kd.R_slice HO111.out;subst eo35
    go_wp2_with (first | ((with_reducible refine gate_callee (f := 12) rfl ?_);refine goesL_ (some 38) rfl rfl Try.func12 (by kernel_rfl) rfl #[.slice Ao34 t120.length co34,.slice Ao35 t109.length co35] rfl (by (try simp only [List.map_toArray,List.map_cons,List.map_nil]);first | done | rfl | (simp only [List.length_drop,List.length_take];rfl)) ?_;(with_reducible refine (laws_eqSightS.calls _ _ t120 _ _ t109 false _ ?side1 ?side2 ?side3 ?side4 A29.out).mono ?_);(case side1 => repeat (first | exact (Kd.R_reads' HO122.out).2.2 | (with_reducible refine Kd.C_alloc ?_ _) | (with_reducible refine Kd.C_drewN ?_ _) | (with_reducible refine Kd.C_drew ?_)));(case side2 => exact (Kd.R_reads' HO122.out).2.1);(case side3 => repeat (first | exact (Kd.R_reads' HO111.out).2.2 | (with_reducible refine Kd.C_alloc ?_ _) | (with_reducible refine Kd.C_drewN ?_ _) | (with_reducible refine Kd.C_drew ?_)));(case side4 => exact (Kd.R_reads' HO111.out).2.1);rintro e w36 ⟨rfl,hb⟩;refine ⟨_,rfl,?_⟩;have n0_ := Aside0.mk (Kd.R_below (by (with_reducible repeat (first | apply Kd.R_alloc | apply Kd.R_drewN | apply Kd.R_drew));exact HO105.out) hb);have n1_ := Aside0.mk (Kd.S_below (by (with_reducible repeat (first | apply Kd.S_alloc | apply Kd.S_drewN | apply Kd.S_drew));exact HO108.out) hb);have n2_ := Aside0.mk (Kd.R_below (by (with_reducible repeat (first | apply Kd.R_alloc | apply Kd.R_drewN | apply Kd.R_drew));exact HO111.out) hb);have n3_ := Aside0.mk (Kd.R_below (by (with_reducible repeat (first | apply Kd.R_alloc | apply Kd.R_drewN | apply Kd.R_drew));exact HO115.out) hb);have n4_ := Aside0.mk (Kd.S_below (by (with_reducible repeat (first | apply Kd.S_alloc | apply Kd.S_drewN | apply Kd.S_drew));exact HO118.out) hb);have n5_ := Aside0.mk (Kd.R_below (by (with_reducible repeat (first | apply Kd.R_alloc | apply Kd.R_drewN | apply Kd.R_drew));exact HO122.out) hb);have n6_ := Aside0.mk (blk_below (g := gb101) (o := .cells #[.slice A0_0 l0_0.length c0_0,.slice A0_1 l0_1.length c0_1] 25 (0,0)) (by (with_reducible repeat (first | refine blk_drewN ?_ _ | refine blk_drew ?_ | refine blk_alloc ?_ _));exact BK101.out) hb);have n7_ := Aside0.mk (blk_below (g := gb119) (o := .cells #[.slice Ao24 t113.length co24,.slice Ao27 t116.length co27] 33 (0,0)) (by (with_reducible repeat (first | refine blk_drewN ?_ _ | refine blk_drew ?_ | refine blk_alloc ?_ _));exact BK119.out) hb);have n8_ := Aside0.mk (below_step (by repeat (first | (with_reducible first | exact HB.out | apply below_alloc | apply pw_below_drewN | apply below_drew1 | refine below_set ?_ GE101.out | refine below_set ?_ GE119.out) | exact HB.out)) hb);clear HO105;clear HO108;clear HO111;clear HO115;clear HO118;clear HO122;clear BK101;clear BK119;clear HB;have HO105 := n0_;have HO108 := n1_;have HO111 := n2_;have HO115 := n3_;have HO118 := n4_;have HO122 := n5_;have BK101 := n6_;have BK119 := n7_;have HB := n8_;clear n0_ n1_ n2_ n3_ n4_ n5_ n6_ n7_ n8_;(try clear hb);(try clear hb2);(try clear hk);(try clear hi)))
    go_meet
    case rel => exact ⟨_,(true),(by first | rfl | (simp only [IntKind.wrap_i64,wrap64];done) | (simp;done) | (simp [*];done)),H',⟨by first | omega | exact Nat.le_refl _⟩,⟨by (with_reducible repeat (first | apply Kd.R_alloc | apply Kd.R_drewN | apply Kd.R_drew));exact Kd.R_mono HO111.out (fun _ hk => hk.2)⟩,⟨by (with_reducible repeat (first | apply Kd.R_alloc | apply Kd.R_drewN | apply Kd.R_drew));exact Kd.R_mono HO122.out (fun _ hk => hk.2)⟩,⟨by (with_reducible repeat (first | apply Kd.R_alloc | apply Kd.R_drewN | apply Kd.R_drew));exact Kd.R_mono HO115.out (fun _ hk => trivial)⟩,⟨by (with_reducible repeat (first | apply Kd.S_alloc | apply Kd.S_drewN | apply Kd.S_drew));exact Kd.S_mono HO118.out (fun _ hk => trivial)⟩,⟨by (with_reducible repeat (first | refine blk_drewN ?_ _ | refine blk_drew ?_ | refine blk_alloc ?_ _));exact BK101.out⟩,⟨by (with_reducible repeat (first | refine blk_drewN ?_ _ | refine blk_drew ?_ | refine blk_alloc ?_ _));exact BK119.out⟩,⟨by repeat (first | (with_reducible first | exact HB.out | apply below_alloc | apply pw_below_drewN | apply below_drew1 | refine below_set ?_ GE101.out | refine below_set ?_ GE119.out) | exact HB.out)⟩⟩
  case rest =>
   clear HC12;(try clear c1);(try clear c2);(try clear p2);(try clear c3);(try clear c4);(try clear c4b0);(try clear c8);(try clear c9);(try clear c10);(try clear c11);(try clear c12);(try clear c25);(try clear c30);(try clear hcz14_0);(try clear hcz14_1);(try clear hcz16_0);(try clear hcz16_1);(try clear hcz21_0);(try clear hcz21_1);(try clear hcz26_0);(try clear hcz26_1);(try clear hcz6_0);(try clear hcz6_1);(try clear hfz14_0);(try clear hfz14_1);(try clear hfz16_0);(try clear hfz16_1);(try clear hfz21_0);(try clear hfz21_1);(try clear hfz26_0);(try clear hfz26_1);(try clear hfz6_0);(try clear hfz6_1);obtain ⟨kq,x44_11,rfl,HA,HJ11,HO_6,HO_9,HO_120000,HO_120001,BK101,BK119,HB⟩ := hcut
   cases kq with
   | zero => exact absurd HA.out (by simp [laws_FnExactSightsOf.j0])
   | succ kj11 =>
    have H := HA.out;clear HA;simp only [laws_FnExactSightsOf.j0] at H
    by_cases c37 : x44_11 = true
    ·subst c37
     have H1 : (some false) = some r := by rw [if_pos rfl] at H;exact H
     clear H;have H := H1;clear H1;obtain rfl := Option.some.inj H
     go_wp2
     go_ret
     exact ⟨by first | rfl | (simp [errW_none,errW_some,IntKind.wrap_i64,wrap64];done) | (simp [errW_none,errW_some] <;> rfl) | (simp [*,errW_none,errW_some] <;> rfl),by repeat (first | (with_reducible first | exact HB.out | apply below_alloc | apply pw_below_drewN | apply below_drew1 | refine below_set ?_ GE101.out | refine below_set ?_ GE119.out) | exact HB.out)⟩
    ·replace c37 := Bool.eq_false_iff.mpr c37;subst c37
     have H1 : ((laws_toCode.f kj11 l0_0 l0_1).bind fun bt125 => ((laws_eqCode.f kj11 t113 t116 bt125.1 bt125.2).bind fun t131 => (if t131 = true then ((laws_markCode.f kj11 t113 t116 1).bind fun bt132 => (if bt132.1 < 0 then (laws_FnExactSightsOf.j1 kj11 a1 t109 t112 t120 true l0_0 l0_1) else ((laws_eqSightS.f t120 t109).bind fun t135 => (if t135 = true then (laws_FnExactSightsOf.j1 kj11 a1 t109 t112 t120 (t123 != t112) l0_0 l0_1) else (laws_FnExactSightsOf.j1 kj11 a1 t109 t112 t120 true l0_0 l0_1))))) else (some false)))) = some r := by rw [if_neg (show ¬ (false = true) by decide)] at H;exact H
     clear H;have H := H1;clear H1;replace H := Option.bind_eq_some_iff.mp H;obtain ⟨⟨t125,t128⟩,A380,H⟩ := H;replace H : ((laws_eqCode.f kj11 t113 t116 t125 t128).bind fun t131 => (if t131 = true then ((laws_markCode.f kj11 t113 t116 1).bind fun bt132 => (if bt132.1 < 0 then (laws_FnExactSightsOf.j1 kj11 a1 t109 t112 t120 true l0_0 l0_1) else ((laws_eqSightS.f t120 t109).bind fun t135 => (if t135 = true then (laws_FnExactSightsOf.j1 kj11 a1 t109 t112 t120 (t123 != t112) l0_0 l0_1) else (laws_FnExactSightsOf.j1 kj11 a1 t109 t112 t120 true l0_0 l0_1))))) else (some false))) = some r := H;have A38 := Aside0.mk A380;clear A380;replace H := Option.bind_eq_some_iff.mp H;obtain ⟨t131,A390,H⟩ := H;replace H : (if t131 = true then ((laws_markCode.f kj11 t113 t116 1).bind fun bt132 => (if bt132.1 < 0 then (laws_FnExactSightsOf.j1 kj11 a1 t109 t112 t120 true l0_0 l0_1) else ((laws_eqSightS.f t120 t109).bind fun t135 => (if t135 = true then (laws_FnExactSightsOf.j1 kj11 a1 t109 t112 t120 (t123 != t112) l0_0 l0_1) else (laws_FnExactSightsOf.j1 kj11 a1 t109 t112 t120 true l0_0 l0_1))))) else (some false)) = some r := H;have A39 := Aside0.mk A390;clear A390
     by_cases c40 : t131 = true
     ·subst c40
      have H1 : ((laws_markCode.f kj11 t113 t116 1).bind fun bt132 => (if bt132.1 < 0 then (laws_FnExactSightsOf.j1 kj11 a1 t109 t112 t120 true l0_0 l0_1) else ((laws_eqSightS.f t120 t109).bind fun t135 => (if t135 = true then (laws_FnExactSightsOf.j1 kj11 a1 t109 t112 t120 (t123 != t112) l0_0 l0_1) else (laws_FnExactSightsOf.j1 kj11 a1 t109 t112 t120 true l0_0 l0_1))))) = some r := by rw [if_pos rfl] at H;exact H
      clear H;have H := H1;clear H1;replace H := Option.bind_eq_some_iff.mp H;obtain ⟨⟨t132,t133,t134⟩,A410,H⟩ := H;replace H : (if t132 < 0 then (laws_FnExactSightsOf.j1 kj11 a1 t109 t112 t120 true l0_0 l0_1) else ((laws_eqSightS.f t120 t109).bind fun t135 => (if t135 = true then (laws_FnExactSightsOf.j1 kj11 a1 t109 t112 t120 (t123 != t112) l0_0 l0_1) else (laws_FnExactSightsOf.j1 kj11 a1 t109 t112 t120 true l0_0 l0_1)))) = some r := H;have A41 := Aside0.mk A410;clear A410;have HC42 := Aside0.mk H;clear H;(try go_wp2);have n0_ := Aside0.mk (Kd.R_drew HO_6.out);have n1_ := Aside0.mk (Kd.R_drew HO_9.out);have n2_ := Aside0.mk (Kd.R_drew HO_120000.out);have n3_ := Aside0.mk (Kd.S_drew HO_120001.out);have n4_ := Aside0.mk (blk_drew BK101.out);have n5_ := Aside0.mk (blk_drew BK119.out);have n6_ := Aside0.mk (below_drew1 HB.out);clear HO_6;clear HO_9;clear HO_120000;clear HO_120001;clear BK101;clear BK119;clear HB;have HO_6 := n0_;have HO_9 := n1_;have HO_120000 := n2_;have HO_120001 := n3_;have BK101 := n4_;have BK119 := n5_;have HB := n6_;clear n0_ n1_ n2_ n3_ n4_ n5_ n6_;refine start_ (n := 5) (S := fun w' => w'.cell? ⟨gb119,0,none⟩ = some (.slice Ao24 t113.length co24) ∧ w'.cell? ⟨gb119,1,none⟩ = some (.slice Ao27 t116.length co27) ∧ w'.cell? ⟨gb101,0,none⟩ = some (.slice A0_0 l0_0.length c0_0) ∧ w'.cell? ⟨gb101,1,none⟩ = some (.slice A0_1 l0_1.length c0_1)) (ds := []) #[false,false,false,false,false] (by kernel_rfl) rfl rfl ⟨(blk_cell BK119.out 0).trans rfl,(blk_cell BK119.out 1).trans rfl,(blk_cell BK101.out 0).trans rfl,(blk_cell BK101.out 1).trans rfl⟩ (fun hHeld => ?_);generalize wc.drew = w43 at HO_6 HO_9 HO_120000 HO_120001 BK101 BK119 HB hHeld ⊢;refine take_ (i := 0) (N := some 45) (v := ?_) (a' := ?_) #[true,false,false,false,false] rfl rfl (by kernel_rfl) (fun _ _ _ h => h) (Or.inl ⟨by rfl,?_⟩) hHeld ?_ ?_;rotate_left
      ·rintro w' ⟨s0,s1,s2,s3⟩
       go_simp;with_reducible rfl
      rotate_left
      ·simp only [Act.put,List.setIfInBounds_toArray,List.set_cons_zero,List.set_cons_succ,i64_w,i32_w];rfl
      refine take_ (i := 1) (N := some 46) (v := ?_) (a' := ?_) #[true,true,false,false,false] rfl rfl (by kernel_rfl) (fun _ _ _ h => h) (Or.inl ⟨by rfl,?_⟩) hHeld ?_ ?_;rotate_left
      ·rintro w' ⟨s0,s1,s2,s3⟩
       go_simp;with_reducible rfl
      rotate_left
      ·simp only [Act.put,List.setIfInBounds_toArray,List.set_cons_zero,List.set_cons_succ,i64_w,i32_w];rfl
      refine one_ (i := 2) (N := some 47) #[true,true,true,false,false] rfl rfl (by kernel_rfl) (by decide) (fun K hK => ?_);refine goes_ Try.func10 (by kernel_rfl) rfl #[.agg #[.slice A0_0 l0_0.length c0_0,.slice A0_1 l0_1.length c0_1]] (by rfl) rfl rfl (by (try simp only [List.map_toArray,List.map_cons,List.map_nil]);first | done | rfl | (simp only [List.length_drop,List.length_take];rfl)) ?_
      with_reducible refine (laws_toCode.calls kj11 _ _ l0_0 _ _ l0_1 t125 t128 _ ?side1 ?side2 ?side3 ?side4 A38.out).mono ?_
      (case side1 => repeat (first | exact (Kd.C_below HR0_0.out HB.out) | (with_reducible refine Kd.C_alloc ?_ _) | (with_reducible refine Kd.C_drewN ?_ _) | (with_reducible refine Kd.C_drew ?_)));(case side2 => exact HC0_0.out);(case side3 => repeat (first | exact (Kd.C_below HR0_1.out HB.out) | (with_reducible refine Kd.C_alloc ?_ _) | (with_reducible refine Kd.C_drewN ?_ _) | (with_reducible refine Kd.C_drew ?_)));(case side4 => exact HC0_1.out)
      rintro e w44 ⟨v126,v129,rfl,ho0,ho1,hb⟩
      refine ⟨_,rfl,?_⟩;have n0_ := Aside0.mk (Kd.R_below (by (with_reducible repeat (first | apply Kd.R_alloc | apply Kd.R_drewN | apply Kd.R_drew));exact HO_6.out) hb);have n1_ := Aside0.mk (Kd.R_below (by (with_reducible repeat (first | apply Kd.R_alloc | apply Kd.R_drewN | apply Kd.R_drew));exact HO_9.out) hb);have n2_ := Aside0.mk (Kd.R_elder' (by (with_reducible repeat (first | apply Kd.R_alloc | apply Kd.R_drewN | apply Kd.R_drew));exact HO_120000.out) (Kd.R_base ho0) hb);have n3_ := Aside0.mk (Kd.S_elder' (by (with_reducible repeat (first | apply Kd.S_alloc | apply Kd.S_drewN | apply Kd.S_drew));exact HO_120001.out) (Kd.S_base ho1) hb);have n4_ := Aside0.mk (Kd.R_lower (Kd.R_new' ho0 (Kd.R_lt (by (with_reducible repeat (first | apply Kd.R_alloc | apply Kd.R_drewN | apply Kd.R_drew));exact HO_120000.out))) (below_size (by repeat (first | (with_reducible first | exact HB.out | apply below_alloc | apply pw_below_drewN | apply below_drew1 | refine below_set ?_ GE101.out | refine below_set ?_ GE119.out) | exact HB.out))));have n5_ := Aside0.mk (Kd.S_lower (Kd.S_new' ho1 (Kd.S_lt (by (with_reducible repeat (first | apply Kd.S_alloc | apply Kd.S_drewN | apply Kd.S_drew));exact HO_120001.out))) (below_size (by repeat (first | (with_reducible first | exact HB.out | apply below_alloc | apply pw_below_drewN | apply below_drew1 | refine below_set ?_ GE101.out | refine below_set ?_ GE119.out) | exact HB.out))));have n6_ := Aside0.mk (blk_below (g := gb101) (o := .cells #[.slice A0_0 l0_0.length c0_0,.slice A0_1 l0_1.length c0_1] 25 (0,0)) (by (with_reducible repeat (first | refine blk_drewN ?_ _ | refine blk_drew ?_ | refine blk_alloc ?_ _));exact BK101.out) hb);have n7_ := Aside0.mk (blk_below (g := gb119) (o := .cells #[.slice Ao24 t113.length co24,.slice Ao27 t116.length co27] 33 (0,0)) (by (with_reducible repeat (first | refine blk_drewN ?_ _ | refine blk_drew ?_ | refine blk_alloc ?_ _));exact BK119.out) hb);have n8_ := Aside0.mk (below_step (by repeat (first | (with_reducible first | exact HB.out | apply below_alloc | apply pw_below_drewN | apply below_drew1 | refine below_set ?_ GE101.out | refine below_set ?_ GE119.out) | exact HB.out)) hb);clear HO_6;clear HO_9;clear HO_120000;clear HO_120001;clear BK101;clear BK119;clear HB;have HO_6 := n0_;have HO_9 := n1_;have HO_120000 := n2_;have HO_120001 := n3_;have HO127 := n4_;have HO130 := n5_;have BK101 := n6_;have BK119 := n7_;have HB := n8_;clear n0_ n1_ n2_ n3_ n4_ n5_ n6_ n7_ n8_;(try clear hb);(try clear hb2);(try clear hk);(try clear hi);(try clear ho0);(try clear ho1);obtain ⟨Ao45,co45,eo45⟩ := Kd.R_slice HO127.out;(first | subst eo45 | (injection eo45 with f1_ f2_ f3_;have f4_ := f1_.symm;have f5_ := f3_.symm;clear f1_ f2_ f3_;subst f4_;subst f5_));obtain ⟨Ao46,co46,eo46⟩ := Kd.S_slice HO130.out;(first | subst eo46 | (injection eo46 with f1_ f2_ f3_;have f4_ := f1_.symm;have f5_ := f3_.symm;clear f1_ f2_ f3_;subst f4_;subst f5_));refine hK.out _ _ ⟨(blk_cell BK119.out 0).trans rfl,(blk_cell BK119.out 1).trans rfl,(blk_cell BK101.out 0).trans rfl,(blk_cell BK101.out 1).trans rfl⟩ (fun hHeld => ?_);clear hK K;refine norm_ (a' := ?_) ?_ ?_;rotate_left
      ·show Act.put _ (some 47) _ = _
       simp only [Act.put,List.setIfInBounds_toArray,List.set_cons_zero,List.set_cons_succ,i64_w,i32_w];rfl
      refine one_ (i := 3) (N := some 48) #[true,true,true,true,false] rfl rfl (by kernel_rfl) (by decide) (fun K hK => ?_);refine goes_ Try.func13 (by kernel_rfl) rfl #[.agg #[.slice Ao24 t113.length co24,.slice Ao27 t116.length co27],.agg #[.slice Ao45 t125.length co45,.slice Ao46 t128.length co46]] (by rfl) rfl rfl (by (try simp only [List.map_toArray,List.map_cons,List.map_nil]);first | done | rfl | (simp only [List.length_drop,List.length_take];rfl)) ?_
      with_reducible refine (laws_eqCode.calls kj11 _ _ t113 _ _ t116 _ _ t125 _ _ t128 true _ ?side1 ?side2 ?side3 ?side4 ?side5 ?side6 ?side7 ?side8 A39.out).mono ?_
      (case side1 => repeat (first | exact (Kd.R_reads' HO_120000.out).2.2 | (with_reducible refine Kd.C_alloc ?_ _) | (with_reducible refine Kd.C_drewN ?_ _) | (with_reducible refine Kd.C_drew ?_)));(case side2 => exact (Kd.R_reads' HO_120000.out).2.1);(case side3 => repeat (first | exact (Kd.S_reads' HO_120001.out).2.2 | (with_reducible refine Kd.C_alloc ?_ _) | (with_reducible refine Kd.C_drewN ?_ _) | (with_reducible refine Kd.C_drew ?_)));(case side4 => exact (Kd.S_reads' HO_120001.out).2.1);(case side5 => repeat (first | exact (Kd.R_reads' HO127.out).2.2 | (with_reducible refine Kd.C_alloc ?_ _) | (with_reducible refine Kd.C_drewN ?_ _) | (with_reducible refine Kd.C_drew ?_)));(case side6 => exact (Kd.R_reads' HO127.out).2.1);(case side7 => repeat (first | exact (Kd.S_reads' HO130.out).2.2 | (with_reducible refine Kd.C_alloc ?_ _) | (with_reducible refine Kd.C_drewN ?_ _) | (with_reducible refine Kd.C_drew ?_)));(case side8 => exact (Kd.S_reads' HO130.out).2.1)
      rintro e w47 ⟨rfl,hb⟩
      refine ⟨_,rfl,?_⟩;have n0_ := Aside0.mk (Kd.R_below (by (with_reducible repeat (first | apply Kd.R_alloc | apply Kd.R_drewN | apply Kd.R_drew));exact HO_6.out) hb);have n1_ := Aside0.mk (Kd.R_below (by (with_reducible repeat (first | apply Kd.R_alloc | apply Kd.R_drewN | apply Kd.R_drew));exact HO_9.out) hb);have n2_ := Aside0.mk (Kd.R_below (by (with_reducible repeat (first | apply Kd.R_alloc | apply Kd.R_drewN | apply Kd.R_drew));exact HO_120000.out) hb);have n3_ := Aside0.mk (Kd.S_below (by (with_reducible repeat (first | apply Kd.S_alloc | apply Kd.S_drewN | apply Kd.S_drew));exact HO_120001.out) hb);have n4_ := Aside0.mk (Kd.R_below (by (with_reducible repeat (first | apply Kd.R_alloc | apply Kd.R_drewN | apply Kd.R_drew));exact HO127.out) hb);have n5_ := Aside0.mk (Kd.S_below (by (with_reducible repeat (first | apply Kd.S_alloc | apply Kd.S_drewN | apply Kd.S_drew));exact HO130.out) hb);have n6_ := Aside0.mk (blk_below (g := gb101) (o := .cells #[.slice A0_0 l0_0.length c0_0,.slice A0_1 l0_1.length c0_1] 25 (0,0)) (by (with_reducible repeat (first | refine blk_drewN ?_ _ | refine blk_drew ?_ | refine blk_alloc ?_ _));exact BK101.out) hb);have n7_ := Aside0.mk (blk_below (g := gb119) (o := .cells #[.slice Ao24 t113.length co24,.slice Ao27 t116.length co27] 33 (0,0)) (by (with_reducible repeat (first | refine blk_drewN ?_ _ | refine blk_drew ?_ | refine blk_alloc ?_ _));exact BK119.out) hb);have n8_ := Aside0.mk (below_step (by repeat (first | (with_reducible first | exact HB.out | apply below_alloc | apply pw_below_drewN | apply below_drew1 | refine below_set ?_ GE101.out | refine below_set ?_ GE119.out) | exact HB.out)) hb);clear HO_6;clear HO_9;clear HO_120000;clear HO_120001;clear HO127;clear HO130;clear BK101;clear BK119;clear HB;have HO_6 := n0_;have HO_9 := n1_;have HO_120000 := n2_;have HO_120001 := n3_;have HO127 := n4_;have HO130 := n5_;have BK101 := n6_;have BK119 := n7_;have HB := n8_;clear n0_ n1_ n2_ n3_ n4_ n5_ n6_ n7_ n8_;(try clear hb);(try clear hb2);(try clear hk);(try clear hi);refine hK.out _ _ ⟨(blk_cell BK119.out 0).trans rfl,(blk_cell BK119.out 1).trans rfl,(blk_cell BK101.out 0).trans rfl,(blk_cell BK101.out 1).trans rfl⟩ (fun hHeld => ?_);clear hK K;refine norm_ (a' := ?_) ?_ ?_;rotate_left
      ·show Act.put _ (some 48) _ = _
       simp only [Act.put,List.setIfInBounds_toArray,List.set_cons_zero,List.set_cons_succ,i64_w,i32_w];rfl
      refine pure_ (i := 4) (N := some 49) (v := ?_) (a' := ?_) #[true,true,true,true,true] rfl rfl (by kernel_rfl) (fun _ _ _ h => h) (Or.inl ⟨by rfl,?_⟩) ?_ ?_;rotate_left
      ·intro w';go_simp;with_reducible rfl
      rotate_left
      ·simp only [Act.put,List.setIfInBounds_toArray,List.set_cons_zero,List.set_cons_succ,i64_w,i32_w];rfl
      refine done_ (by kernel_rfl) ?_;have hnb48 := NB119_101.out;have hnc48 := NB101_119.out;have hcz49_0 : w47.cell? ⟨gb119,0,none⟩ = some (.slice Ao24 t113.length co24) := (blk_cell BK119.out 0).trans rfl;have hcz49_1 : w47.cell? ⟨gb119,1,none⟩ = some (.slice Ao27 t116.length co27) := (blk_cell BK119.out 1).trans rfl;have hfz49_0 := blk_frozen BK119.out 0;have hfz49_1 := blk_frozen BK119.out 1
      go_upto_region 14 with (first | ((with_reducible refine gate_callee (f := 14) rfl ?_);refine goesL_ (some 52) rfl rfl Try.func14 (by kernel_rfl) rfl #[.agg #[.slice Ao24 t113.length co24,.slice Ao27 t116.length co27],.int .i64 1] rfl (by (try simp only [List.map_toArray,List.map_cons,List.map_nil]);first | done | rfl | (simp only [List.length_drop,List.length_take];rfl)) ?_;(with_reducible refine (laws_markCode.calls kj11 (fun k_ => some k_ = (.slice Ao24 t113.length co24 : Value).ownBlock) (.slice Ao24 t113.length co24) t113 (fun k_ => ∃ q,q ∈ 79 :: ((Kd.slice 5 (Kd.int .u8))).E ∧ ∃ cells,w47.heap[k_]? = some (.cells cells q (0,0))) (.slice Ao27 t116.length co27) t116 1 t132 t133 t134 w _ ?side1 ?side2 ?side3 A41.out).mono ?_);(case side1 => repeat (first | (with_reducible first | exact HB.out | apply below_alloc | apply pw_below_drewN | apply below_drew1 | refine below_set ?_ GE101.out | refine below_set ?_ GE119.out) | exact HB.out));(case side2 => exact Kd.R_tight rfl HO_120000.out);(case side3 => exact Kd.S_mono (Kd.S_bound (HO_120001.out)) (fun _ hk_ => hk_.2.2.2));rintro e w50 ⟨rfl,hy0,hy1,hb,hkp⟩;refine ⟨_,rfl,?_⟩;have n0_ := Aside0.mk (laws_markCode.other (HO_6.out) (Kd.R_typed HO_120000.out) hkp (by decide));have n1_ := Aside0.mk (laws_markCode.other (HO_9.out) (Kd.R_typed HO_120000.out) hkp (by decide));have n2_ := Aside0.mk (Kd.R_reok rfl hy0 (fun k_ e_ => HO_120000.out.1 k_ e_));have n3_ := Aside0.mk (Kd.S_mono (ok' := fun _ => True) hy1 (fun _ _ => trivial));have n4_ := Aside0.mk (blk_kept (by (with_reducible repeat (first | refine blk_drewN ?_ _ | refine blk_drew ?_ | refine blk_alloc ?_ _));exact BK101.out) hkp (fun hs_ => Or.elim hs_ (fun e_ => (fun e_ => by first | exact (Kd.R_ne HO_120000.out BK101.out (by decide)) e_ | (obtain ⟨q_,hq_,cs_,hc_⟩ := e_;rw [BK101.out] at hc_;injection hc_ with hc_;injection hc_ with _ hc_ _;subst hc_;exact absurd hq_ (by decide))) e_) (fun e_ => (fun e_ => by first | exact (Kd.R_ne HO_120001.out BK101.out (by decide)) e_ | (obtain ⟨q_,hq_,cs_,hc_⟩ := e_;rw [BK101.out] at hc_;injection hc_ with hc_;injection hc_ with _ hc_ _;subst hc_;exact absurd hq_ (by decide))) e_)));have n5_ := Aside0.mk (blk_kept (by (with_reducible repeat (first | refine blk_drewN ?_ _ | refine blk_drew ?_ | refine blk_alloc ?_ _));exact BK119.out) hkp (fun hs_ => Or.elim hs_ (fun e_ => (fun e_ => by first | exact (Kd.R_ne HO_120000.out BK119.out (by decide)) e_ | (obtain ⟨q_,hq_,cs_,hc_⟩ := e_;rw [BK119.out] at hc_;injection hc_ with hc_;injection hc_ with _ hc_ _;subst hc_;exact absurd hq_ (by decide))) e_) (fun e_ => (fun e_ => by first | exact (Kd.R_ne HO_120001.out BK119.out (by decide)) e_ | (obtain ⟨q_,hq_,cs_,hc_⟩ := e_;rw [BK119.out] at hc_;injection hc_ with hc_;injection hc_ with _ hc_ _;subst hc_;exact absurd hq_ (by decide))) e_)));have n6_ := Aside0.mk (hb);clear HO_6;clear HO_9;clear HO_120000;clear HO_120001;clear BK101;clear BK119;clear HB;clear HO127;clear HO130;have HO_6 := n0_;have HO_9 := n1_;have HO_120000 := n2_;have HO_120001 := n3_;have BK101 := n4_;have BK119 := n5_;have HB := n6_;clear n0_ n1_ n2_ n3_ n4_ n5_ n6_;(try clear hb);(try clear hkp);(try clear hy0);(try clear hy1)))
      (try simp only [Act.put,List.setIfInBounds_toArray,List.set_cons_zero,List.set_cons_succ])
      go_cut [65] (fun v65 wc => ∃ (kq : Nat) (x65_41 : Bool),v65 = .bool x65_41 ∧ Aside0 (laws_FnExactSightsOf.j1 kq a1 t109 t112 t120 x65_41 l0_0 l0_1 = some r) ∧ Aside0 (kq ≤ kj11) ∧ Aside0 (Kd.R k61 61 wc w.heap.size (fun k_ => some k_ ≠ (v121 : Value).ownBlock) v110 t109) ∧ Aside0 (Kd.R k61 61 wc w.heap.size (fun k_ => some k_ ≠ (v110 : Value).ownBlock) v121 t120) ∧ Aside0 (Kd.R k68 68 wc w.heap.size (fun _ => True) (.slice Ao24 t113.length co24) t133) ∧ Aside0 (Kd.S (Kd.slice 5 (Kd.int .u8)) 79 wc w.heap.size (fun _ => True) (.slice Ao27 t116.length co27) t134) ∧ Aside0 (wc.heap[gb101]? = some (.cells #[(.slice A0_0 l0_0.length c0_0),(.slice A0_1 l0_1.length c0_1)] 25 (0,0))) ∧ Aside0 (wc.heap[gb119]? = some (.cells #[(.slice Ao24 t113.length co24),(.slice Ao27 t116.length co27)] 33 (0,0))) ∧ Aside0 (Below w.heap.size w wc))
      case first =>
       have H := HC42.out;clear HC42
       by_cases c51 : t132 < 0
       ·rw [if_pos c51] at H;have c51b0 : decide (t132 < 0) = true := decide_eq_true c51;clear c51;(first | rw [c51b0] | (simp only [i64_w,i32_w];rw [c51b0]) | skip);have H' := Aside0.mk H;clear H
        go_wp2
        go_meet
        case rel => exact ⟨_,(true),(by first | rfl | (simp only [IntKind.wrap_i64,wrap64];done) | (simp;done) | (simp [*];done)),H',⟨by have := HJ11.out;first | omega | exact Nat.le_refl _⟩,⟨by (with_reducible repeat (first | apply Kd.R_alloc | apply Kd.R_drewN | apply Kd.R_drew));exact HO_6.out⟩,⟨by (with_reducible repeat (first | apply Kd.R_alloc | apply Kd.R_drewN | apply Kd.R_drew));exact HO_9.out⟩,⟨by (with_reducible repeat (first | apply Kd.R_alloc | apply Kd.R_drewN | apply Kd.R_drew));exact Kd.R_mono HO_120000.out (fun _ hk => trivial)⟩,⟨by (with_reducible repeat (first | apply Kd.S_alloc | apply Kd.S_drewN | apply Kd.S_drew));exact HO_120001.out⟩,⟨by (with_reducible repeat (first | refine blk_drewN ?_ _ | refine blk_drew ?_ | refine blk_alloc ?_ _));exact BK101.out⟩,⟨by (with_reducible repeat (first | refine blk_drewN ?_ _ | refine blk_drew ?_ | refine blk_alloc ?_ _));exact BK119.out⟩,⟨by repeat (first | (with_reducible first | exact HB.out | apply below_alloc | apply pw_below_drewN | apply below_drew1 | refine below_set ?_ GE101.out | refine below_set ?_ GE119.out) | exact HB.out)⟩⟩
       ·rw [if_neg c51] at H;have c51b0 : decide (t132 < 0) = false := decide_eq_false c51;clear c51;(first | rw [c51b0] | (simp only [i64_w,i32_w];rw [c51b0]) | skip);replace H := Option.bind_eq_some_iff.mp H;obtain ⟨t135,A520,H⟩ := H;replace H : (if t135 = true then (laws_FnExactSightsOf.j1 kj11 a1 t109 t112 t120 (t123 != t112) l0_0 l0_1) else (laws_FnExactSightsOf.j1 kj11 a1 t109 t112 t120 true l0_0 l0_1)) = some r := H;have A52 := Aside0.mk A520;clear A520
        by_cases c53 : t135 = true
        ·subst c53
         have H1 : (laws_FnExactSightsOf.j1 kj11 a1 t109 t112 t120 (t123 != t112) l0_0 l0_1) = some r := by rw [if_pos rfl] at H;exact H
         clear H;have H := H1;clear H1;have H' := Aside0.mk H;clear H;obtain ⟨Ao54,co54,eo54⟩ := Kd.R_slice HO_9.out;subst eo54;obtain ⟨Ao55,co55,eo55⟩ := Kd.R_slice HO_6.out;subst eo55
         go_wp2_with (first | (go_at_call 12;(with_reducible refine (laws_eqSightS.calls _ _ t120 _ _ t109 true _ ?side1 ?side2 ?side3 ?side4 A52.out).mono ?_);(case side1 => repeat (first | exact (Kd.R_reads' HO_9.out).2.2 | (with_reducible refine Kd.C_alloc ?_ _) | (with_reducible refine Kd.C_drewN ?_ _) | (with_reducible refine Kd.C_drew ?_)));(case side2 => exact (Kd.R_reads' HO_9.out).2.1);(case side3 => repeat (first | exact (Kd.R_reads' HO_6.out).2.2 | (with_reducible refine Kd.C_alloc ?_ _) | (with_reducible refine Kd.C_drewN ?_ _) | (with_reducible refine Kd.C_drew ?_)));(case side4 => exact (Kd.R_reads' HO_6.out).2.1);rintro e w56 ⟨rfl,hb⟩;have n0_ := Aside0.mk (Kd.R_below (by (with_reducible repeat (first | apply Kd.R_alloc | apply Kd.R_drewN | apply Kd.R_drew));exact HO_6.out) hb);have n1_ := Aside0.mk (Kd.R_below (by (with_reducible repeat (first | apply Kd.R_alloc | apply Kd.R_drewN | apply Kd.R_drew));exact HO_9.out) hb);have n2_ := Aside0.mk (Kd.R_below (by (with_reducible repeat (first | apply Kd.R_alloc | apply Kd.R_drewN | apply Kd.R_drew));exact HO_120000.out) hb);have n3_ := Aside0.mk (Kd.S_below (by (with_reducible repeat (first | apply Kd.S_alloc | apply Kd.S_drewN | apply Kd.S_drew));exact HO_120001.out) hb);have n4_ := Aside0.mk (blk_below (g := gb101) (o := .cells #[.slice A0_0 l0_0.length c0_0,.slice A0_1 l0_1.length c0_1] 25 (0,0)) (by (with_reducible repeat (first | refine blk_drewN ?_ _ | refine blk_drew ?_ | refine blk_alloc ?_ _));exact BK101.out) hb);have n5_ := Aside0.mk (blk_below (g := gb119) (o := .cells #[.slice Ao24 t113.length co24,.slice Ao27 t116.length co27] 33 (0,0)) (by (with_reducible repeat (first | refine blk_drewN ?_ _ | refine blk_drew ?_ | refine blk_alloc ?_ _));exact BK119.out) hb);have n6_ := Aside0.mk (below_step (by repeat (first | (with_reducible first | exact HB.out | apply below_alloc | apply pw_below_drewN | apply below_drew1 | refine below_set ?_ GE101.out | refine below_set ?_ GE119.out) | exact HB.out)) hb);clear HO_6;clear HO_9;clear HO_120000;clear HO_120001;clear BK101;clear BK119;clear HB;have HO_6 := n0_;have HO_9 := n1_;have HO_120000 := n2_;have HO_120001 := n3_;have BK101 := n4_;have BK119 := n5_;have HB := n6_;clear n0_ n1_ n2_ n3_ n4_ n5_ n6_;(try clear hb);(try clear hb2);(try clear hk);(try clear hi)))
         go_meet
         case rel => exact ⟨_,((t123 != t112)),(by first | rfl | (simp only [IntKind.wrap_i64,wrap64];done) | (simp;done) | (simp [*];done)),H',⟨by have := HJ11.out;first | omega | exact Nat.le_refl _⟩,⟨by (with_reducible repeat (first | apply Kd.R_alloc | apply Kd.R_drewN | apply Kd.R_drew));exact HO_6.out⟩,⟨by (with_reducible repeat (first | apply Kd.R_alloc | apply Kd.R_drewN | apply Kd.R_drew));exact HO_9.out⟩,⟨by (with_reducible repeat (first | apply Kd.R_alloc | apply Kd.R_drewN | apply Kd.R_drew));exact Kd.R_mono HO_120000.out (fun _ hk => trivial)⟩,⟨by (with_reducible repeat (first | apply Kd.S_alloc | apply Kd.S_drewN | apply Kd.S_drew));exact HO_120001.out⟩,⟨by (with_reducible repeat (first | refine blk_drewN ?_ _ | refine blk_drew ?_ | refine blk_alloc ?_ _));exact BK101.out⟩,⟨by (with_reducible repeat (first | refine blk_drewN ?_ _ | refine blk_drew ?_ | refine blk_alloc ?_ _));exact BK119.out⟩,⟨by repeat (first | (with_reducible first | exact HB.out | apply below_alloc | apply pw_below_drewN | apply below_drew1 | refine below_set ?_ GE101.out | refine below_set ?_ GE119.out) | exact HB.out)⟩⟩
        ·replace c53 := Bool.eq_false_iff.mpr c53;subst c53
         have H1 : (laws_FnExactSightsOf.j1 kj11 a1 t109 t112 t120 true l0_0 l0_1) = some r := by rw [if_neg (show ¬ (false = true) by decide)] at H;exact H
         clear H;have H := H1;clear H1;have H' := Aside0.mk H;clear H;obtain ⟨Ao57,co57,eo57⟩ := Kd.R_slice HO_9.out;subst eo57;obtain ⟨Ao58,co58,eo58⟩ := Kd.R_slice HO_6.out;subst eo58
         go_wp2_with (first | (go_at_call 12;(with_reducible refine (laws_eqSightS.calls _ _ t120 _ _ t109 false _ ?side1 ?side2 ?side3 ?side4 A52.out).mono ?_);(case side1 => repeat (first | exact (Kd.R_reads' HO_9.out).2.2 | (with_reducible refine Kd.C_alloc ?_ _) | (with_reducible refine Kd.C_drewN ?_ _) | (with_reducible refine Kd.C_drew ?_)));(case side2 => exact (Kd.R_reads' HO_9.out).2.1);(case side3 => repeat (first | exact (Kd.R_reads' HO_6.out).2.2 | (with_reducible refine Kd.C_alloc ?_ _) | (with_reducible refine Kd.C_drewN ?_ _) | (with_reducible refine Kd.C_drew ?_)));(case side4 => exact (Kd.R_reads' HO_6.out).2.1);rintro e w59 ⟨rfl,hb⟩;have n0_ := Aside0.mk (Kd.R_below (by (with_reducible repeat (first | apply Kd.R_alloc | apply Kd.R_drewN | apply Kd.R_drew));exact HO_6.out) hb);have n1_ := Aside0.mk (Kd.R_below (by (with_reducible repeat (first | apply Kd.R_alloc | apply Kd.R_drewN | apply Kd.R_drew));exact HO_9.out) hb);have n2_ := Aside0.mk (Kd.R_below (by (with_reducible repeat (first | apply Kd.R_alloc | apply Kd.R_drewN | apply Kd.R_drew));exact HO_120000.out) hb);have n3_ := Aside0.mk (Kd.S_below (by (with_reducible repeat (first | apply Kd.S_alloc | apply Kd.S_drewN | apply Kd.S_drew));exact HO_120001.out) hb);have n4_ := Aside0.mk (blk_below (g := gb101) (o := .cells #[.slice A0_0 l0_0.length c0_0,.slice A0_1 l0_1.length c0_1] 25 (0,0)) (by (with_reducible repeat (first | refine blk_drewN ?_ _ | refine blk_drew ?_ | refine blk_alloc ?_ _));exact BK101.out) hb);have n5_ := Aside0.mk (blk_below (g := gb119) (o := .cells #[.slice Ao24 t113.length co24,.slice Ao27 t116.length co27] 33 (0,0)) (by (with_reducible repeat (first | refine blk_drewN ?_ _ | refine blk_drew ?_ | refine blk_alloc ?_ _));exact BK119.out) hb);have n6_ := Aside0.mk (below_step (by repeat (first | (with_reducible first | exact HB.out | apply below_alloc | apply pw_below_drewN | apply below_drew1 | refine below_set ?_ GE101.out | refine below_set ?_ GE119.out) | exact HB.out)) hb);clear HO_6;clear HO_9;clear HO_120000;clear HO_120001;clear BK101;clear BK119;clear HB;have HO_6 := n0_;have HO_9 := n1_;have HO_120000 := n2_;have HO_120001 := n3_;have BK101 := n4_;have BK119 := n5_;have HB := n6_;clear n0_ n1_ n2_ n3_ n4_ n5_ n6_;(try clear hb);(try clear hb2);(try clear hk);(try clear hi)))
         go_meet
         case rel => exact ⟨_,(true),(by first | rfl | (simp only [IntKind.wrap_i64,wrap64];done) | (simp;done) | (simp [*];done)),H',⟨by have := HJ11.out;first | omega | exact Nat.le_refl _⟩,⟨by (with_reducible repeat (first | apply Kd.R_alloc | apply Kd.R_drewN | apply Kd.R_drew));exact HO_6.out⟩,⟨by (with_reducible repeat (first | apply Kd.R_alloc | apply Kd.R_drewN | apply Kd.R_drew));exact HO_9.out⟩,⟨by (with_reducible repeat (first | apply Kd.R_alloc | apply Kd.R_drewN | apply Kd.R_drew));exact Kd.R_mono HO_120000.out (fun _ hk => trivial)⟩,⟨by (with_reducible repeat (first | apply Kd.S_alloc | apply Kd.S_drewN | apply Kd.S_drew));exact HO_120001.out⟩,⟨by (with_reducible repeat (first | refine blk_drewN ?_ _ | refine blk_drew ?_ | refine blk_alloc ?_ _));exact BK101.out⟩,⟨by (with_reducible repeat (first | refine blk_drewN ?_ _ | refine blk_drew ?_ | refine blk_alloc ?_ _));exact BK119.out⟩,⟨by repeat (first | (with_reducible first | exact HB.out | apply below_alloc | apply pw_below_drewN | apply below_drew1 | refine below_set ?_ GE101.out | refine below_set ?_ GE119.out) | exact HB.out)⟩⟩
      case rest =>
       clear HC42;(try clear c1);(try clear c2);(try clear p2);(try clear c3);(try clear c4);(try clear c4b0);(try clear c5);(try clear c8);(try clear c9);(try clear c10);(try clear c11);(try clear c12);(try clear c13);(try clear c14);(try clear c25);(try clear c30);(try clear c37);(try clear c40);(try clear c48);(try clear c51);(try clear c51b0);(try clear c53);(try clear hcz14_0);(try clear hcz14_1);(try clear hcz16_0);(try clear hcz16_1);(try clear hcz21_0);(try clear hcz21_1);(try clear hcz26_0);(try clear hcz26_1);(try clear hcz49_0);(try clear hcz49_1);(try clear hcz6_0);(try clear hcz6_1);(try clear hfz14_0);(try clear hfz14_1);(try clear hfz16_0);(try clear hfz16_1);(try clear hfz21_0);(try clear hfz21_1);(try clear hfz26_0);(try clear hfz26_1);(try clear hfz49_0);(try clear hfz49_1);(try clear hfz6_0);(try clear hfz6_1);(try clear p2);obtain ⟨kq,x65_41,rfl,HA,HJ41,HO_6,HO_9,HO_120000,HO_120001,BK101,BK119,HB⟩ := hcut;have hl120000_41 := (Kd.R_reads' HO_120000.out).1;rw [hl120000_41] at HO_120000;(try simp only [hl120000_41]);(try simp only [hl120000_41] at BK101);(try simp only [hl120000_41] at BK119);(try simp only [hl120000_41] at HO_6);(try simp only [hl120000_41] at HO_9);(try simp only [hl120000_41] at HO_120001);have hl120001_41 := (Kd.S_reads' HO_120001.out).1;rw [hl120001_41] at HO_120001;(try simp only [hl120001_41]);(try simp only [hl120001_41] at BK101);(try simp only [hl120001_41] at BK119);(try simp only [hl120001_41] at HO_6);(try simp only [hl120001_41] at HO_9);(try simp only [hl120001_41] at HO_120000)
       cases kq with
       | zero => exact absurd HA.out (by simp [laws_FnExactSightsOf.j1])
       | succ kj41 =>
        have H := HA.out;clear HA;simp only [laws_FnExactSightsOf.j1] at H
        by_cases c60 : x65_41 = true
        ·subst c60
         have H1 : (some false) = some r := by rw [if_pos rfl] at H;exact H
         clear H;have H := H1;clear H1;obtain rfl := Option.some.inj H
         go_wp2
         go_ret
         exact ⟨by first | rfl | (simp [errW_none,errW_some,IntKind.wrap_i64,wrap64];done) | (simp [errW_none,errW_some] <;> rfl) | (simp [*,errW_none,errW_some] <;> rfl),by repeat (first | (with_reducible first | exact HB.out | apply below_alloc | apply pw_below_drewN | apply below_drew1 | refine below_set ?_ GE101.out | refine below_set ?_ GE119.out) | exact HB.out)⟩
        ·replace c60 := Bool.eq_false_iff.mpr c60;subst c60
         have H1 : ((laws_markSightS.f t120 1).bind fun bt136 => ((laws_heldSightS.f bt136.2 1).bind fun t138 => (if t138 < 0 then (some false) else (if t138 = bt136.1 then ((laws_toCode.f kj41 l0_0 l0_1).bind fun bt139 => ((impl_SightsOf.f kj41 bt139.1 bt139.2 a1).bind fun bt145 => ((laws_eqSightS.f bt145.1 t109).bind fun t149 => (if t149 = true then (laws_FnExactSightsOf.j2 kj41 bt136.2 bt136.1 (bt145.2 != t112)) else (laws_FnExactSightsOf.j2 kj41 bt136.2 bt136.1 true))))) else (some false))))) = some r := by rw [if_neg (show ¬ (false = true) by decide)] at H;exact H
         clear H;have H := H1;clear H1;replace H := Option.bind_eq_some_iff.mp H;obtain ⟨⟨t136,t137⟩,A610,H⟩ := H;replace H : ((laws_heldSightS.f t137 1).bind fun t138 => (if t138 < 0 then (some false) else (if t138 = t136 then ((laws_toCode.f kj41 l0_0 l0_1).bind fun bt139 => ((impl_SightsOf.f kj41 bt139.1 bt139.2 a1).bind fun bt145 => ((laws_eqSightS.f bt145.1 t109).bind fun t149 => (if t149 = true then (laws_FnExactSightsOf.j2 kj41 t137 t136 (bt145.2 != t112)) else (laws_FnExactSightsOf.j2 kj41 t137 t136 true))))) else (some false)))) = some r := H;have A61 := Aside0.mk A610;clear A610;replace H := Option.bind_eq_some_iff.mp H;obtain ⟨t138,A620,H⟩ := H;replace H : (if t138 < 0 then (some false) else (if t138 = t136 then ((laws_toCode.f kj41 l0_0 l0_1).bind fun bt139 => ((impl_SightsOf.f kj41 bt139.1 bt139.2 a1).bind fun bt145 => ((laws_eqSightS.f bt145.1 t109).bind fun t149 => (if t149 = true then (laws_FnExactSightsOf.j2 kj41 t137 t136 (bt145.2 != t112)) else (laws_FnExactSightsOf.j2 kj41 t137 t136 true))))) else (some false))) = some r := H;have A62 := Aside0.mk A620;clear A620
         by_cases c63 : t138 < 0
         ·rw [if_pos c63] at H;have c63b0 : decide (t138 < 0) = true := decide_eq_true c63;clear c63;obtain rfl := Option.some.inj H;obtain ⟨Ao64,co64,eo64⟩ := Kd.R_slice HO_9.out;subst eo64
          go_wp2_with (first | ((with_reducible refine gate_callee (f := 15) rfl ?_);refine goesL_ (some 68) rfl rfl Try.func15 (by kernel_rfl) rfl #[.slice Ao64 t120.length co64,.int .i64 1] rfl (by (try simp only [List.map_toArray,List.map_cons,List.map_nil]);first | done | rfl | (simp only [List.length_drop,List.length_take];rfl)) ?_;(with_reducible refine (laws_markSightS.calls (fun k_ => some k_ = (.slice Ao64 t120.length co64 : Value).ownBlock) (.slice Ao64 t120.length co64) t120 1 t136 t137 w _ ?side1 ?side2 A61.out).mono ?_);(case side1 => repeat (first | (with_reducible first | exact HB.out | apply below_alloc | apply pw_below_drewN | apply below_drew1 | refine below_set ?_ GE101.out | refine below_set ?_ GE119.out) | exact HB.out));(case side2 => exact Kd.R_tight rfl HO_9.out);rintro e w65 ⟨rfl,hy0,hb,hkp⟩;refine ⟨_,rfl,?_⟩;have n0_ := Aside0.mk (Kd.R_mono (ok' := fun k_ => some k_ ≠ (.slice Ao64 t120.length co64 : Value).ownBlock) (Kd.R_keptB (HO_6.out) hkp (fun k_ hk_ hs_ => (hk_) hs_)) (fun k_ hk_ => hk_.1));have n1_ := Aside0.mk (Kd.R_reok rfl hy0 (fun k_ e_ => HO_9.out.1 k_ e_));have n2_ := Aside0.mk (Kd.R_mono (ok' := fun k_ => True) (Kd.R_keptB ((Kd.R_apart' HO_120000.out (Kd.R_typed HO_9.out) (by decide))) hkp (fun k_ hk_ hs_ => (hk_.2) hs_)) (fun k_ hk_ => trivial));have n3_ := Aside0.mk (Kd.S_mono (ok' := fun k_ => True) (Kd.S_keptB ((Kd.S_apart' HO_120001.out (Kd.R_typed HO_9.out) (by decide))) hkp (fun k_ hk_ hs_ => (hk_.2) hs_)) (fun k_ hk_ => trivial));have n4_ := Aside0.mk (blk_kept (by (with_reducible repeat (first | refine blk_drewN ?_ _ | refine blk_drew ?_ | refine blk_alloc ?_ _));exact BK101.out) hkp (fun hs_ => (fun e_ => by first | exact (Kd.R_ne HO_9.out BK101.out (by decide)) e_ | (obtain ⟨q_,hq_,cs_,hc_⟩ := e_;rw [BK101.out] at hc_;injection hc_ with hc_;injection hc_ with _ hc_ _;subst hc_;exact absurd hq_ (by decide))) hs_));have n5_ := Aside0.mk (blk_kept (by (with_reducible repeat (first | refine blk_drewN ?_ _ | refine blk_drew ?_ | refine blk_alloc ?_ _));exact BK119.out) hkp (fun hs_ => (fun e_ => by first | exact (Kd.R_ne HO_9.out BK119.out (by decide)) e_ | (obtain ⟨q_,hq_,cs_,hc_⟩ := e_;rw [BK119.out] at hc_;injection hc_ with hc_;injection hc_ with _ hc_ _;subst hc_;exact absurd hq_ (by decide))) hs_));have n6_ := Aside0.mk (hb);clear HO_6;clear HO_9;clear HO_120000;clear HO_120001;clear BK101;clear BK119;clear HB;have HO_6 := n0_;have HO_9 := n1_;have HO_120000 := n2_;have HO_120001 := n3_;have BK101 := n4_;have BK119 := n5_;have HB := n6_;clear n0_ n1_ n2_ n3_ n4_ n5_ n6_;(try clear hb);(try clear hkp);(try clear hy0)) | ((with_reducible refine gate_callee (f := 16) rfl ?_);refine goesL_ (some 71) rfl rfl Try.func16 (by kernel_rfl) rfl #[.slice Ao64 t137.length co64,.int .i64 1] rfl (by (try simp only [List.map_toArray,List.map_cons,List.map_nil]);first | done | (rw [show t137.length = t120.length from (Kd.R_reads' HO_9.out).1.symm] <;> rfl) | rfl | (simp only [List.length_drop,List.length_take];rfl)) ?_;(with_reducible refine (laws_heldSightS.calls _ _ t137 1 t138 _ ?side1 ?side2 A62.out).mono ?_);(case side1 => repeat (first | exact (Kd.R_reads' HO_9.out).2.2 | (with_reducible refine Kd.C_alloc ?_ _) | (with_reducible refine Kd.C_drewN ?_ _) | (with_reducible refine Kd.C_drew ?_)));(case side2 => rw [show t137.length = t120.length from (Kd.R_reads' HO_9.out).1.symm];exact (Kd.R_reads' HO_9.out).2.1);rintro e w' ⟨rfl,⟨nd,rfl⟩⟩;refine ⟨_,rfl,?_⟩))
          go_ret
          exact ⟨by first | rfl | (simp [errW_none,errW_some,IntKind.wrap_i64,wrap64];done) | (simp [errW_none,errW_some] <;> rfl) | (simp [*,errW_none,errW_some] <;> rfl),by repeat (first | (with_reducible first | exact HB.out | apply below_alloc | apply pw_below_drewN | apply below_drew1 | refine below_set ?_ GE101.out | refine below_set ?_ GE119.out) | exact HB.out)⟩
         ·rw [if_neg c63] at H;have c63b0 : decide (t138 < 0) = false := decide_eq_false c63;clear c63
          by_cases c66 : t138 = t136
          ·rw [if_pos c66] at H;have c66b0 : (t138 == t136) = true := beq_iff_eq.mpr c66;have c66b1 : (t138 != t136) = false := bne_eq_false_iff_eq.mpr c66;clear c66;replace H := Option.bind_eq_some_iff.mp H;obtain ⟨⟨t139,t142⟩,A670,H⟩ := H;replace H : ((impl_SightsOf.f kj41 t139 t142 a1).bind fun bt145 => ((laws_eqSightS.f bt145.1 t109).bind fun t149 => (if t149 = true then (laws_FnExactSightsOf.j2 kj41 t137 t136 (bt145.2 != t112)) else (laws_FnExactSightsOf.j2 kj41 t137 t136 true)))) = some r := H;have A67 := Aside0.mk A670;clear A670;replace H := Option.bind_eq_some_iff.mp H;obtain ⟨⟨t145,t148⟩,A680,H⟩ := H;replace H : ((laws_eqSightS.f t145 t109).bind fun t149 => (if t149 = true then (laws_FnExactSightsOf.j2 kj41 t137 t136 (t148 != t112)) else (laws_FnExactSightsOf.j2 kj41 t137 t136 true))) = some r := H;have A68 := Aside0.mk A680;clear A680;have HC69 := Aside0.mk H;clear H;obtain ⟨Ao70,co70,eo70⟩ := Kd.R_slice HO_9.out;subst eo70
           go_upto_region 25 with (first | ((with_reducible refine gate_callee (f := 15) rfl ?_);refine goesL_ (some 68) rfl rfl Try.func15 (by kernel_rfl) rfl #[.slice Ao70 t120.length co70,.int .i64 1] rfl (by (try simp only [List.map_toArray,List.map_cons,List.map_nil]);first | done | rfl | (simp only [List.length_drop,List.length_take];rfl)) ?_;(with_reducible refine (laws_markSightS.calls (fun k_ => some k_ = (.slice Ao70 t120.length co70 : Value).ownBlock) (.slice Ao70 t120.length co70) t120 1 t136 t137 w _ ?side1 ?side2 A61.out).mono ?_);(case side1 => repeat (first | (with_reducible first | exact HB.out | apply below_alloc | apply pw_below_drewN | apply below_drew1 | refine below_set ?_ GE101.out | refine below_set ?_ GE119.out) | exact HB.out));(case side2 => exact Kd.R_tight rfl HO_9.out);rintro e w71 ⟨rfl,hy0,hb,hkp⟩;refine ⟨_,rfl,?_⟩;have n0_ := Aside0.mk (Kd.R_mono (ok' := fun k_ => some k_ ≠ (.slice Ao70 t120.length co70 : Value).ownBlock) (Kd.R_keptB (HO_6.out) hkp (fun k_ hk_ hs_ => (hk_) hs_)) (fun k_ hk_ => hk_.1));have n1_ := Aside0.mk (Kd.R_reok rfl hy0 (fun k_ e_ => HO_9.out.1 k_ e_));have n2_ := Aside0.mk (Kd.R_mono (ok' := fun k_ => True) (Kd.R_keptB ((Kd.R_apart' HO_120000.out (Kd.R_typed HO_9.out) (by decide))) hkp (fun k_ hk_ hs_ => (hk_.2) hs_)) (fun k_ hk_ => trivial));have n3_ := Aside0.mk (Kd.S_mono (ok' := fun k_ => True) (Kd.S_keptB ((Kd.S_apart' HO_120001.out (Kd.R_typed HO_9.out) (by decide))) hkp (fun k_ hk_ hs_ => (hk_.2) hs_)) (fun k_ hk_ => trivial));have n4_ := Aside0.mk (blk_kept (by (with_reducible repeat (first | refine blk_drewN ?_ _ | refine blk_drew ?_ | refine blk_alloc ?_ _));exact BK101.out) hkp (fun hs_ => (fun e_ => by first | exact (Kd.R_ne HO_9.out BK101.out (by decide)) e_ | (obtain ⟨q_,hq_,cs_,hc_⟩ := e_;rw [BK101.out] at hc_;injection hc_ with hc_;injection hc_ with _ hc_ _;subst hc_;exact absurd hq_ (by decide))) hs_));have n5_ := Aside0.mk (blk_kept (by (with_reducible repeat (first | refine blk_drewN ?_ _ | refine blk_drew ?_ | refine blk_alloc ?_ _));exact BK119.out) hkp (fun hs_ => (fun e_ => by first | exact (Kd.R_ne HO_9.out BK119.out (by decide)) e_ | (obtain ⟨q_,hq_,cs_,hc_⟩ := e_;rw [BK119.out] at hc_;injection hc_ with hc_;injection hc_ with _ hc_ _;subst hc_;exact absurd hq_ (by decide))) hs_));have n6_ := Aside0.mk (hb);clear HO_6;clear HO_9;clear HO_120000;clear HO_120001;clear BK101;clear BK119;clear HB;have HO_6 := n0_;have HO_9 := n1_;have HO_120000 := n2_;have HO_120001 := n3_;have BK101 := n4_;have BK119 := n5_;have HB := n6_;clear n0_ n1_ n2_ n3_ n4_ n5_ n6_;(try clear hb);(try clear hkp);(try clear hy0)) | ((with_reducible refine gate_callee (f := 16) rfl ?_);refine goesL_ (some 71) rfl rfl Try.func16 (by kernel_rfl) rfl #[.slice Ao70 t137.length co70,.int .i64 1] rfl (by (try simp only [List.map_toArray,List.map_cons,List.map_nil]);first | done | (rw [show t137.length = t120.length from (Kd.R_reads' HO_9.out).1.symm] <;> rfl) | rfl | (simp only [List.length_drop,List.length_take];rfl)) ?_;(with_reducible refine (laws_heldSightS.calls _ _ t137 1 t138 _ ?side1 ?side2 A62.out).mono ?_);(case side1 => repeat (first | exact (Kd.R_reads' HO_9.out).2.2 | (with_reducible refine Kd.C_alloc ?_ _) | (with_reducible refine Kd.C_drewN ?_ _) | (with_reducible refine Kd.C_drew ?_)));(case side2 => rw [show t137.length = t120.length from (Kd.R_reads' HO_9.out).1.symm];exact (Kd.R_reads' HO_9.out).2.1);rintro e w' ⟨rfl,⟨nd,rfl⟩⟩;refine ⟨_,rfl,?_⟩;have hnb72 := NB101_119.out;have hnc72 := NB119_101.out;have hcz73_0 : w71.cell? ⟨gb101,0,none⟩ = some (.slice A0_0 l0_0.length c0_0) := (blk_cell BK101.out 0).trans rfl;have hcz73_1 : w71.cell? ⟨gb101,1,none⟩ = some (.slice A0_1 l0_1.length c0_1) := (blk_cell BK101.out 1).trans rfl;have hfz73_0 := blk_frozen BK101.out 0;have hfz73_1 := blk_frozen BK101.out 1) | ((with_reducible refine gate_callee (f := 10) rfl ?_);refine goesL_ (some 79) rfl rfl Try.func10 (by kernel_rfl) rfl #[.agg #[.slice A0_0 l0_0.length c0_0,.slice A0_1 l0_1.length c0_1]] rfl (by (try simp only [List.map_toArray,List.map_cons,List.map_nil]);first | done | rfl | (simp only [List.length_drop,List.length_take];rfl)) ?_;(with_reducible refine (laws_toCode.calls kj41 _ _ l0_0 _ _ l0_1 t139 t142 _ ?side1 ?side2 ?side3 ?side4 A67.out).mono ?_);(case side1 => repeat (first | exact (Kd.C_below HR0_0.out (by repeat (first | (with_reducible first | exact HB.out | apply below_alloc | apply pw_below_drewN | apply below_drew1 | refine below_set ?_ GE101.out | refine below_set ?_ GE119.out) | exact HB.out))) | (with_reducible refine Kd.C_alloc ?_ _) | (with_reducible refine Kd.C_drewN ?_ _) | (with_reducible refine Kd.C_drew ?_)));(case side2 => exact HC0_0.out);(case side3 => repeat (first | exact (Kd.C_below HR0_1.out (by repeat (first | (with_reducible first | exact HB.out | apply below_alloc | apply pw_below_drewN | apply below_drew1 | refine below_set ?_ GE101.out | refine below_set ?_ GE119.out) | exact HB.out))) | (with_reducible refine Kd.C_alloc ?_ _) | (with_reducible refine Kd.C_drewN ?_ _) | (with_reducible refine Kd.C_drew ?_)));(case side4 => exact HC0_1.out);rintro e w74 ⟨v140,v143,rfl,ho0,ho1,hb⟩;refine ⟨_,rfl,?_⟩;have n0_ := Aside0.mk (Kd.R_below (by (with_reducible repeat (first | apply Kd.R_alloc | apply Kd.R_drewN | apply Kd.R_drew));exact HO_6.out) hb);have n1_ := Aside0.mk (Kd.R_below (by (with_reducible repeat (first | apply Kd.R_alloc | apply Kd.R_drewN | apply Kd.R_drew));exact HO_9.out) hb);have n2_ := Aside0.mk (Kd.R_elder' (by (with_reducible repeat (first | apply Kd.R_alloc | apply Kd.R_drewN | apply Kd.R_drew));exact HO_120000.out) (Kd.R_base ho0) hb);have n3_ := Aside0.mk (Kd.S_elder' (by (with_reducible repeat (first | apply Kd.S_alloc | apply Kd.S_drewN | apply Kd.S_drew));exact HO_120001.out) (Kd.S_base ho1) hb);have n4_ := Aside0.mk (Kd.R_lower (Kd.R_new' ho0 (Kd.R_lt (by (with_reducible repeat (first | apply Kd.R_alloc | apply Kd.R_drewN | apply Kd.R_drew));exact HO_120000.out))) (below_size (by repeat (first | (with_reducible first | exact HB.out | apply below_alloc | apply pw_below_drewN | apply below_drew1 | refine below_set ?_ GE101.out | refine below_set ?_ GE119.out) | exact HB.out))));have n5_ := Aside0.mk (Kd.S_lower (Kd.S_new' ho1 (Kd.S_lt (by (with_reducible repeat (first | apply Kd.S_alloc | apply Kd.S_drewN | apply Kd.S_drew));exact HO_120001.out))) (below_size (by repeat (first | (with_reducible first | exact HB.out | apply below_alloc | apply pw_below_drewN | apply below_drew1 | refine below_set ?_ GE101.out | refine below_set ?_ GE119.out) | exact HB.out))));have n6_ := Aside0.mk (blk_below (g := gb101) (o := .cells #[.slice A0_0 l0_0.length c0_0,.slice A0_1 l0_1.length c0_1] 25 (0,0)) (by (with_reducible repeat (first | refine blk_drewN ?_ _ | refine blk_drew ?_ | refine blk_alloc ?_ _));exact BK101.out) hb);have n7_ := Aside0.mk (blk_below (g := gb119) (o := .cells #[.slice Ao24 t133.length co24,.slice Ao27 t134.length co27] 33 (0,0)) (by (with_reducible repeat (first | refine blk_drewN ?_ _ | refine blk_drew ?_ | refine blk_alloc ?_ _));exact BK119.out) hb);have n8_ := Aside0.mk (below_step (by repeat (first | (with_reducible first | exact HB.out | apply below_alloc | apply pw_below_drewN | apply below_drew1 | refine below_set ?_ GE101.out | refine below_set ?_ GE119.out) | exact HB.out)) hb);clear HO_6;clear HO_9;clear HO_120000;clear HO_120001;clear BK101;clear BK119;clear HB;have HO_6 := n0_;have HO_9 := n1_;have HO_120000 := n2_;have HO_120001 := n3_;have HO141 := n4_;have HO144 := n5_;have BK101 := n6_;have BK119 := n7_;have HB := n8_;clear n0_ n1_ n2_ n3_ n4_ n5_ n6_ n7_ n8_;(try clear hb);(try clear hb2);(try clear hk);(try clear hi);(try clear ho0);(try clear ho1);obtain ⟨Ao75,co75,eo75⟩ := Kd.R_slice HO141.out;subst eo75;obtain ⟨Ao76,co76,eo76⟩ := Kd.S_slice HO144.out;subst eo76) | ((with_reducible refine gate_callee (f := 11) rfl ?_);refine goesL_ (some 81) rfl rfl Try.func11 (by kernel_rfl) rfl #[.agg #[.slice Ao75 t139.length co75,.slice Ao76 t142.length co76],.int .i64 a1] rfl (by (try simp only [List.map_toArray,List.map_cons,List.map_nil]);first | done | rfl | (simp only [List.length_drop,List.length_take];rfl)) ?_;(with_reducible refine (impl_SightsOf.calls kj41 _ _ t139 _ _ t142 a1 t145 t148 _ ?side1 ?side2 ?side3 ?side4 A68.out).mono ?_);(case side1 => repeat (first | exact (Kd.R_reads' HO141.out).2.2 | (with_reducible refine Kd.C_alloc ?_ _) | (with_reducible refine Kd.C_drewN ?_ _) | (with_reducible refine Kd.C_drew ?_)));(case side2 => exact (Kd.R_reads' HO141.out).2.1);(case side3 => repeat (first | exact (Kd.S_reads' HO144.out).2.2 | (with_reducible refine Kd.C_alloc ?_ _) | (with_reducible refine Kd.C_drewN ?_ _) | (with_reducible refine Kd.C_drew ?_)));(case side4 => exact (Kd.S_reads' HO144.out).2.1);rintro e w77 ⟨v146,rfl,ho0,hb⟩;refine ⟨_,rfl,?_⟩;have n0_ := Aside0.mk (Kd.R_elder' (by (with_reducible repeat (first | apply Kd.R_alloc | apply Kd.R_drewN | apply Kd.R_drew));exact HO_6.out) (Kd.R_base ho0) hb);have n1_ := Aside0.mk (Kd.R_elder' (by (with_reducible repeat (first | apply Kd.R_alloc | apply Kd.R_drewN | apply Kd.R_drew));exact HO_9.out) (Kd.R_base ho0) hb);have n2_ := Aside0.mk (Kd.R_below (by (with_reducible repeat (first | apply Kd.R_alloc | apply Kd.R_drewN | apply Kd.R_drew));exact HO_120000.out) hb);have n3_ := Aside0.mk (Kd.S_below (by (with_reducible repeat (first | apply Kd.S_alloc | apply Kd.S_drewN | apply Kd.S_drew));exact HO_120001.out) hb);have n4_ := Aside0.mk (Kd.R_below (by (with_reducible repeat (first | apply Kd.R_alloc | apply Kd.R_drewN | apply Kd.R_drew));exact HO141.out) hb);have n5_ := Aside0.mk (Kd.S_below (by (with_reducible repeat (first | apply Kd.S_alloc | apply Kd.S_drewN | apply Kd.S_drew));exact HO144.out) hb);have n6_ := Aside0.mk (Kd.R_lower (Kd.R_new' (Kd.R_new' ho0 (Kd.R_lt (by (with_reducible repeat (first | apply Kd.R_alloc | apply Kd.R_drewN | apply Kd.R_drew));exact HO_6.out))) (Kd.R_lt (by (with_reducible repeat (first | apply Kd.R_alloc | apply Kd.R_drewN | apply Kd.R_drew));exact HO_9.out))) (below_size (by repeat (first | (with_reducible first | exact HB.out | apply below_alloc | apply pw_below_drewN | apply below_drew1 | refine below_set ?_ GE101.out | refine below_set ?_ GE119.out) | exact HB.out))));have n7_ := Aside0.mk (blk_below (g := gb101) (o := .cells #[.slice A0_0 l0_0.length c0_0,.slice A0_1 l0_1.length c0_1] 25 (0,0)) (by (with_reducible repeat (first | refine blk_drewN ?_ _ | refine blk_drew ?_ | refine blk_alloc ?_ _));exact BK101.out) hb);have n8_ := Aside0.mk (blk_below (g := gb119) (o := .cells #[.slice Ao24 t133.length co24,.slice Ao27 t134.length co27] 33 (0,0)) (by (with_reducible repeat (first | refine blk_drewN ?_ _ | refine blk_drew ?_ | refine blk_alloc ?_ _));exact BK119.out) hb);have n9_ := Aside0.mk (below_step (by repeat (first | (with_reducible first | exact HB.out | apply below_alloc | apply pw_below_drewN | apply below_drew1 | refine below_set ?_ GE101.out | refine below_set ?_ GE119.out) | exact HB.out)) hb);clear HO_6;clear HO_9;clear HO_120000;clear HO_120001;clear HO141;clear HO144;clear BK101;clear BK119;clear HB;have HO_6 := n0_;have HO_9 := n1_;have HO_120000 := n2_;have HO_120001 := n3_;have HO141 := n4_;have HO144 := n5_;have HO147 := n6_;have BK101 := n7_;have BK119 := n8_;have HB := n9_;clear n0_ n1_ n2_ n3_ n4_ n5_ n6_ n7_ n8_ n9_;(try clear hb);(try clear hb2);(try clear hk);(try clear hi);(try clear ho0)))
           (try simp only [Act.put,List.setIfInBounds_toArray,List.set_cons_zero,List.set_cons_succ])
           go_cut [92] (fun v92 wc => ∃ (kq : Nat) (x92_68 : Bool),v92 = .bool x92_68 ∧ Aside0 (laws_FnExactSightsOf.j2 kq t137 t136 x92_68 = some r) ∧ Aside0 (kq ≤ kj41) ∧ Aside0 (Kd.R k61 61 wc w.heap.size (fun _ => True) (.slice Ao70 t120.length co70) t137) ∧ Aside0 (Kd.R k68 68 wc w.heap.size (fun _ => True) (.slice Ao24 t133.length co24) t133) ∧ Aside0 (Kd.S (Kd.slice 5 (Kd.int .u8)) 79 wc w.heap.size (fun _ => True) (.slice Ao27 t134.length co27) t134) ∧ Aside0 (wc.heap[gb101]? = some (.cells #[(.slice A0_0 l0_0.length c0_0),(.slice A0_1 l0_1.length c0_1)] 25 (0,0))) ∧ Aside0 (wc.heap[gb119]? = some (.cells #[(.slice Ao24 t133.length co24),(.slice Ao27 t134.length co27)] 33 (0,0))) ∧ Aside0 (Below w.heap.size w wc))
           case first =>
            have H := HC69.out;clear HC69;replace H := Option.bind_eq_some_iff.mp H;obtain ⟨t149,A780,H⟩ := H;replace H : (if t149 = true then (laws_FnExactSightsOf.j2 kj41 t137 t136 (t148 != t112)) else (laws_FnExactSightsOf.j2 kj41 t137 t136 true)) = some r := H;have A78 := Aside0.mk A780;clear A780
            by_cases c79 : t149 = true
            ·subst c79
             have H1 : (laws_FnExactSightsOf.j2 kj41 t137 t136 (t148 != t112)) = some r := by rw [if_pos rfl] at H;exact H
             clear H;have H := H1;clear H1;have H' := Aside0.mk H;clear H;obtain ⟨Ao80,co80,eo80⟩ := Kd.R_slice HO147.out;subst eo80;obtain ⟨Ao81,co81,eo81⟩ := Kd.R_slice HO_6.out;subst eo81
             go_wp2_with (first | ((with_reducible refine gate_callee (f := 12) rfl ?_);refine goesL_ (some 86) rfl rfl Try.func12 (by kernel_rfl) rfl #[.slice Ao80 t145.length co80,.slice Ao81 t109.length co81] rfl (by (try simp only [List.map_toArray,List.map_cons,List.map_nil]);first | done | rfl | (simp only [List.length_drop,List.length_take];rfl)) ?_;(with_reducible refine (laws_eqSightS.calls _ _ t145 _ _ t109 true _ ?side1 ?side2 ?side3 ?side4 A78.out).mono ?_);(case side1 => repeat (first | exact (Kd.R_reads' HO147.out).2.2 | (with_reducible refine Kd.C_alloc ?_ _) | (with_reducible refine Kd.C_drewN ?_ _) | (with_reducible refine Kd.C_drew ?_)));(case side2 => exact (Kd.R_reads' HO147.out).2.1);(case side3 => repeat (first | exact (Kd.R_reads' HO_6.out).2.2 | (with_reducible refine Kd.C_alloc ?_ _) | (with_reducible refine Kd.C_drewN ?_ _) | (with_reducible refine Kd.C_drew ?_)));(case side4 => exact (Kd.R_reads' HO_6.out).2.1);rintro e w82 ⟨rfl,hb⟩;refine ⟨_,rfl,?_⟩;have n0_ := Aside0.mk (Kd.R_below (by (with_reducible repeat (first | apply Kd.R_alloc | apply Kd.R_drewN | apply Kd.R_drew));exact HO_6.out) hb);have n1_ := Aside0.mk (Kd.R_below (by (with_reducible repeat (first | apply Kd.R_alloc | apply Kd.R_drewN | apply Kd.R_drew));exact HO_9.out) hb);have n2_ := Aside0.mk (Kd.R_below (by (with_reducible repeat (first | apply Kd.R_alloc | apply Kd.R_drewN | apply Kd.R_drew));exact HO_120000.out) hb);have n3_ := Aside0.mk (Kd.S_below (by (with_reducible repeat (first | apply Kd.S_alloc | apply Kd.S_drewN | apply Kd.S_drew));exact HO_120001.out) hb);have n4_ := Aside0.mk (Kd.R_below (by (with_reducible repeat (first | apply Kd.R_alloc | apply Kd.R_drewN | apply Kd.R_drew));exact HO141.out) hb);have n5_ := Aside0.mk (Kd.S_below (by (with_reducible repeat (first | apply Kd.S_alloc | apply Kd.S_drewN | apply Kd.S_drew));exact HO144.out) hb);have n6_ := Aside0.mk (Kd.R_below (by (with_reducible repeat (first | apply Kd.R_alloc | apply Kd.R_drewN | apply Kd.R_drew));exact HO147.out) hb);have n7_ := Aside0.mk (blk_below (g := gb101) (o := .cells #[.slice A0_0 l0_0.length c0_0,.slice A0_1 l0_1.length c0_1] 25 (0,0)) (by (with_reducible repeat (first | refine blk_drewN ?_ _ | refine blk_drew ?_ | refine blk_alloc ?_ _));exact BK101.out) hb);have n8_ := Aside0.mk (blk_below (g := gb119) (o := .cells #[.slice Ao24 t133.length co24,.slice Ao27 t134.length co27] 33 (0,0)) (by (with_reducible repeat (first | refine blk_drewN ?_ _ | refine blk_drew ?_ | refine blk_alloc ?_ _));exact BK119.out) hb);have n9_ := Aside0.mk (below_step (by repeat (first | (with_reducible first | exact HB.out | apply below_alloc | apply pw_below_drewN | apply below_drew1 | refine below_set ?_ GE101.out | refine below_set ?_ GE119.out) | exact HB.out)) hb);clear HO_6;clear HO_9;clear HO_120000;clear HO_120001;clear HO141;clear HO144;clear HO147;clear BK101;clear BK119;clear HB;have HO_6 := n0_;have HO_9 := n1_;have HO_120000 := n2_;have HO_120001 := n3_;have HO141 := n4_;have HO144 := n5_;have HO147 := n6_;have BK101 := n7_;have BK119 := n8_;have HB := n9_;clear n0_ n1_ n2_ n3_ n4_ n5_ n6_ n7_ n8_ n9_;(try clear hb);(try clear hb2);(try clear hk);(try clear hi)))
             go_meet
             case rel => exact ⟨_,((t148 != t112)),(by first | rfl | (simp only [IntKind.wrap_i64,wrap64];done) | (simp;done) | (simp [*];done)),H',⟨by have := HJ11.out;have := HJ41.out;first | omega | exact Nat.le_refl _⟩,⟨by (try simp only [hl120000_41]);(try simp only [hl120001_41]);(with_reducible repeat (first | apply Kd.R_alloc | apply Kd.R_drewN | apply Kd.R_drew));exact Kd.R_mono HO_9.out (fun _ hk => trivial)⟩,⟨by (try simp only [hl120000_41]);(try simp only [hl120001_41]);(with_reducible repeat (first | apply Kd.R_alloc | apply Kd.R_drewN | apply Kd.R_drew));exact Kd.R_mono HO_120000.out (fun _ hk => trivial)⟩,⟨by (try simp only [hl120000_41]);(try simp only [hl120001_41]);(with_reducible repeat (first | apply Kd.S_alloc | apply Kd.S_drewN | apply Kd.S_drew));exact Kd.S_mono HO_120001.out (fun _ hk => trivial)⟩,⟨by (try simp only [hl120000_41]);(try simp only [hl120001_41]);(with_reducible repeat (first | refine blk_drewN ?_ _ | refine blk_drew ?_ | refine blk_alloc ?_ _));exact BK101.out⟩,⟨by (try simp only [hl120000_41]);(try simp only [hl120001_41]);(with_reducible repeat (first | refine blk_drewN ?_ _ | refine blk_drew ?_ | refine blk_alloc ?_ _));exact BK119.out⟩,⟨by repeat (first | (with_reducible first | exact HB.out | apply below_alloc | apply pw_below_drewN | apply below_drew1 | refine below_set ?_ GE101.out | refine below_set ?_ GE119.out) | exact HB.out)⟩⟩
            ·replace c79 := Bool.eq_false_iff.mpr c79;subst c79
             have H1 : (laws_FnExactSightsOf.j2 kj41 t137 t136 true) = some r := by rw [if_neg (show ¬ (false = true) by decide)] at H;exact H
             clear H;have H := H1;clear H1;have H' := Aside0.mk H;clear H;obtain ⟨Ao83,co83,eo83⟩ := Kd.R_slice HO147.out;subst eo83;obtain ⟨Ao84,co84,eo84⟩ := Kd.R_slice HO_6.out;subst eo84
             go_wp2_with (first | ((with_reducible refine gate_callee (f := 12) rfl ?_);refine goesL_ (some 86) rfl rfl Try.func12 (by kernel_rfl) rfl #[.slice Ao83 t145.length co83,.slice Ao84 t109.length co84] rfl (by (try simp only [List.map_toArray,List.map_cons,List.map_nil]);first | done | rfl | (simp only [List.length_drop,List.length_take];rfl)) ?_;(with_reducible refine (laws_eqSightS.calls _ _ t145 _ _ t109 false _ ?side1 ?side2 ?side3 ?side4 A78.out).mono ?_);(case side1 => repeat (first | exact (Kd.R_reads' HO147.out).2.2 | (with_reducible refine Kd.C_alloc ?_ _) | (with_reducible refine Kd.C_drewN ?_ _) | (with_reducible refine Kd.C_drew ?_)));(case side2 => exact (Kd.R_reads' HO147.out).2.1);(case side3 => repeat (first | exact (Kd.R_reads' HO_6.out).2.2 | (with_reducible refine Kd.C_alloc ?_ _) | (with_reducible refine Kd.C_drewN ?_ _) | (with_reducible refine Kd.C_drew ?_)));(case side4 => exact (Kd.R_reads' HO_6.out).2.1);rintro e w85 ⟨rfl,hb⟩;refine ⟨_,rfl,?_⟩;have n0_ := Aside0.mk (Kd.R_below (by (with_reducible repeat (first | apply Kd.R_alloc | apply Kd.R_drewN | apply Kd.R_drew));exact HO_6.out) hb);have n1_ := Aside0.mk (Kd.R_below (by (with_reducible repeat (first | apply Kd.R_alloc | apply Kd.R_drewN | apply Kd.R_drew));exact HO_9.out) hb);have n2_ := Aside0.mk (Kd.R_below (by (with_reducible repeat (first | apply Kd.R_alloc | apply Kd.R_drewN | apply Kd.R_drew));exact HO_120000.out) hb);have n3_ := Aside0.mk (Kd.S_below (by (with_reducible repeat (first | apply Kd.S_alloc | apply Kd.S_drewN | apply Kd.S_drew));exact HO_120001.out) hb);have n4_ := Aside0.mk (Kd.R_below (by (with_reducible repeat (first | apply Kd.R_alloc | apply Kd.R_drewN | apply Kd.R_drew));exact HO141.out) hb);have n5_ := Aside0.mk (Kd.S_below (by (with_reducible repeat (first | apply Kd.S_alloc | apply Kd.S_drewN | apply Kd.S_drew));exact HO144.out) hb);have n6_ := Aside0.mk (Kd.R_below (by (with_reducible repeat (first | apply Kd.R_alloc | apply Kd.R_drewN | apply Kd.R_drew));exact HO147.out) hb);have n7_ := Aside0.mk (blk_below (g := gb101) (o := .cells #[.slice A0_0 l0_0.length c0_0,.slice A0_1 l0_1.length c0_1] 25 (0,0)) (by (with_reducible repeat (first | refine blk_drewN ?_ _ | refine blk_drew ?_ | refine blk_alloc ?_ _));exact BK101.out) hb);have n8_ := Aside0.mk (blk_below (g := gb119) (o := .cells #[.slice Ao24 t133.length co24,.slice Ao27 t134.length co27] 33 (0,0)) (by (with_reducible repeat (first | refine blk_drewN ?_ _ | refine blk_drew ?_ | refine blk_alloc ?_ _));exact BK119.out) hb);have n9_ := Aside0.mk (below_step (by repeat (first | (with_reducible first | exact HB.out | apply below_alloc | apply pw_below_drewN | apply below_drew1 | refine below_set ?_ GE101.out | refine below_set ?_ GE119.out) | exact HB.out)) hb);clear HO_6;clear HO_9;clear HO_120000;clear HO_120001;clear HO141;clear HO144;clear HO147;clear BK101;clear BK119;clear HB;have HO_6 := n0_;have HO_9 := n1_;have HO_120000 := n2_;have HO_120001 := n3_;have HO141 := n4_;have HO144 := n5_;have HO147 := n6_;have BK101 := n7_;have BK119 := n8_;have HB := n9_;clear n0_ n1_ n2_ n3_ n4_ n5_ n6_ n7_ n8_ n9_;(try clear hb);(try clear hb2);(try clear hk);(try clear hi)))
             go_meet
             case rel => exact ⟨_,(true),(by first | rfl | (simp only [IntKind.wrap_i64,wrap64];done) | (simp;done) | (simp [*];done)),H',⟨by have := HJ11.out;have := HJ41.out;first | omega | exact Nat.le_refl _⟩,⟨by (try simp only [hl120000_41]);(try simp only [hl120001_41]);(with_reducible repeat (first | apply Kd.R_alloc | apply Kd.R_drewN | apply Kd.R_drew));exact Kd.R_mono HO_9.out (fun _ hk => trivial)⟩,⟨by (try simp only [hl120000_41]);(try simp only [hl120001_41]);(with_reducible repeat (first | apply Kd.R_alloc | apply Kd.R_drewN | apply Kd.R_drew));exact Kd.R_mono HO_120000.out (fun _ hk => trivial)⟩,⟨by (try simp only [hl120000_41]);(try simp only [hl120001_41]);(with_reducible repeat (first | apply Kd.S_alloc | apply Kd.S_drewN | apply Kd.S_drew));exact Kd.S_mono HO_120001.out (fun _ hk => trivial)⟩,⟨by (try simp only [hl120000_41]);(try simp only [hl120001_41]);(with_reducible repeat (first | refine blk_drewN ?_ _ | refine blk_drew ?_ | refine blk_alloc ?_ _));exact BK101.out⟩,⟨by (try simp only [hl120000_41]);(try simp only [hl120001_41]);(with_reducible repeat (first | refine blk_drewN ?_ _ | refine blk_drew ?_ | refine blk_alloc ?_ _));exact BK119.out⟩,⟨by repeat (first | (with_reducible first | exact HB.out | apply below_alloc | apply pw_below_drewN | apply below_drew1 | refine below_set ?_ GE101.out | refine below_set ?_ GE119.out) | exact HB.out)⟩⟩
           case rest =>
            clear HC69;(try clear c1);(try clear c2);(try clear p2);(try clear c3);(try clear c4);(try clear c4b0);(try clear c5);(try clear c6);(try clear c7);(try clear c8);(try clear c9);(try clear c10);(try clear c11);(try clear c12);(try clear c13);(try clear c14);(try clear c15);(try clear c16);(try clear c25);(try clear c30);(try clear c37);(try clear c40);(try clear c48);(try clear c51);(try clear c51b0);(try clear c53);(try clear c60);(try clear c63);(try clear c63b0);(try clear c66);(try clear c66b0);(try clear c66b1);(try clear c72);(try clear c79);(try clear hcz14_0);(try clear hcz14_1);(try clear hcz16_0);(try clear hcz16_1);(try clear hcz21_0);(try clear hcz21_1);(try clear hcz26_0);(try clear hcz26_1);(try clear hcz49_0);(try clear hcz49_1);(try clear hcz6_0);(try clear hcz6_1);(try clear hcz73_0);(try clear hcz73_1);(try clear hfz14_0);(try clear hfz14_1);(try clear hfz16_0);(try clear hfz16_1);(try clear hfz21_0);(try clear hfz21_1);(try clear hfz26_0);(try clear hfz26_1);(try clear hfz49_0);(try clear hfz49_1);(try clear hfz6_0);(try clear hfz6_1);(try clear hfz73_0);(try clear hfz73_1);(try clear p2);obtain ⟨kq,x92_68,rfl,HA,HJ68,HO_9,HO_120000,HO_120001,BK101,BK119,HB⟩ := hcut;have hl9_68 := (Kd.R_reads' HO_9.out).1;rw [hl9_68] at HO_9;(try simp only [hl9_68]);(try simp only [hl9_68] at BK101);(try simp only [hl9_68] at BK119);(try simp only [hl9_68] at HO_120000);(try simp only [hl9_68] at HO_120001)
            cases kq with
            | zero => exact absurd HA.out (by simp [laws_FnExactSightsOf.j2])
            | succ kj68 =>
             have H := HA.out;clear HA;simp only [laws_FnExactSightsOf.j2] at H
             by_cases c86 : x92_68 = true
             ·subst c86
              have H1 : (some false) = some r := by rw [if_pos rfl] at H;exact H
              clear H;have H := H1;clear H1;obtain rfl := Option.some.inj H
              go_wp2
              go_ret
              exact ⟨by first | rfl | (simp [errW_none,errW_some,IntKind.wrap_i64,wrap64];done) | (simp [errW_none,errW_some] <;> rfl) | (simp [*,errW_none,errW_some] <;> rfl),by repeat (first | (with_reducible first | exact HB.out | apply below_alloc | apply pw_below_drewN | apply below_drew1 | refine below_set ?_ GE101.out | refine below_set ?_ GE119.out) | exact HB.out)⟩
             ·replace c86 := Bool.eq_false_iff.mpr c86;subst c86
              have H1 : ((laws_heldSightS.f t137 1).bind fun t150 => (if t150 < 0 then (some false) else (if t150 = t136 then (some true) else (some false)))) = some r := by rw [if_neg (show ¬ (false = true) by decide)] at H;exact H
              clear H;have H := H1;clear H1;replace H := Option.bind_eq_some_iff.mp H;obtain ⟨t150,A870,H⟩ := H;replace H : (if t150 < 0 then (some false) else (if t150 = t136 then (some true) else (some false))) = some r := H;have A87 := Aside0.mk A870;clear A870
              by_cases c88 : t150 < 0
              ·rw [if_pos c88] at H;have c88b0 : decide (t150 < 0) = true := decide_eq_true c88;clear c88;obtain rfl := Option.some.inj H
               go_wp2_with (first | ((with_reducible refine gate_callee (f := 16) rfl ?_);refine goesL_ (some 95) rfl rfl Try.func16 (by kernel_rfl) rfl #[.slice Ao70 t137.length co70,.int .i64 1] rfl (by (try simp only [List.map_toArray,List.map_cons,List.map_nil]);first | done | rfl | (simp only [List.length_drop,List.length_take];rfl)) ?_;(with_reducible refine (laws_heldSightS.calls _ _ t137 1 t150 _ ?side1 ?side2 A87.out).mono ?_);(case side1 => repeat (first | exact (Kd.R_reads' HO_9.out).2.2 | (with_reducible refine Kd.C_alloc ?_ _) | (with_reducible refine Kd.C_drewN ?_ _) | (with_reducible refine Kd.C_drew ?_)));(case side2 => exact (Kd.R_reads' HO_9.out).2.1);rintro e w' ⟨rfl,⟨nd,rfl⟩⟩;refine ⟨_,rfl,?_⟩))
               go_ret
               exact ⟨by first | rfl | (simp [errW_none,errW_some,IntKind.wrap_i64,wrap64];done) | (simp [errW_none,errW_some] <;> rfl) | (simp [*,errW_none,errW_some] <;> rfl),by repeat (first | (with_reducible first | exact HB.out | apply below_alloc | apply pw_below_drewN | apply below_drew1 | refine below_set ?_ GE101.out | refine below_set ?_ GE119.out) | exact HB.out)⟩
              ·rw [if_neg c88] at H;have c88b0 : decide (t150 < 0) = false := decide_eq_false c88;clear c88
               by_cases c89 : t150 = t136
               ·rw [if_pos c89] at H;have c89b0 : (t150 == t136) = true := beq_iff_eq.mpr c89;have c89b1 : (t150 != t136) = false := bne_eq_false_iff_eq.mpr c89;clear c89;obtain rfl := Option.some.inj H
                go_wp2_with (first | ((with_reducible refine gate_callee (f := 16) rfl ?_);refine goesL_ (some 95) rfl rfl Try.func16 (by kernel_rfl) rfl #[.slice Ao70 t137.length co70,.int .i64 1] rfl (by (try simp only [List.map_toArray,List.map_cons,List.map_nil]);first | done | rfl | (simp only [List.length_drop,List.length_take];rfl)) ?_;(with_reducible refine (laws_heldSightS.calls _ _ t137 1 t150 _ ?side1 ?side2 A87.out).mono ?_);(case side1 => repeat (first | exact (Kd.R_reads' HO_9.out).2.2 | (with_reducible refine Kd.C_alloc ?_ _) | (with_reducible refine Kd.C_drewN ?_ _) | (with_reducible refine Kd.C_drew ?_)));(case side2 => exact (Kd.R_reads' HO_9.out).2.1);rintro e w' ⟨rfl,⟨nd,rfl⟩⟩;refine ⟨_,rfl,?_⟩))
                go_ret
                exact ⟨by first | rfl | (simp [errW_none,errW_some,IntKind.wrap_i64,wrap64];done) | (simp [errW_none,errW_some] <;> rfl) | (simp [*,errW_none,errW_some] <;> rfl),by repeat (first | (with_reducible first | exact HB.out | apply below_alloc | apply pw_below_drewN | apply below_drew1 | refine below_set ?_ GE101.out | refine below_set ?_ GE119.out) | exact HB.out)⟩
               ·rw [if_neg c89] at H;have c89b0 : (t150 == t136) = false := beq_eq_false_iff_ne.mpr c89;have c89b1 : (t150 != t136) = true := bne_iff_ne.mpr c89;obtain rfl := Option.some.inj H
                go_wp2_with (first | ((with_reducible refine gate_callee (f := 16) rfl ?_);refine goesL_ (some 95) rfl rfl Try.func16 (by kernel_rfl) rfl #[.slice Ao70 t137.length co70,.int .i64 1] rfl (by (try simp only [List.map_toArray,List.map_cons,List.map_nil]);first | done | rfl | (simp only [List.length_drop,List.length_take];rfl)) ?_;(with_reducible refine (laws_heldSightS.calls _ _ t137 1 t150 _ ?side1 ?side2 A87.out).mono ?_);(case side1 => repeat (first | exact (Kd.R_reads' HO_9.out).2.2 | (with_reducible refine Kd.C_alloc ?_ _) | (with_reducible refine Kd.C_drewN ?_ _) | (with_reducible refine Kd.C_drew ?_)));(case side2 => exact (Kd.R_reads' HO_9.out).2.1);rintro e w' ⟨rfl,⟨nd,rfl⟩⟩;refine ⟨_,rfl,?_⟩))
                go_ret
                exact ⟨by first | rfl | (simp [errW_none,errW_some,IntKind.wrap_i64,wrap64];done) | (simp [errW_none,errW_some] <;> rfl) | (simp [*,errW_none,errW_some] <;> rfl),by repeat (first | (with_reducible first | exact HB.out | apply below_alloc | apply pw_below_drewN | apply below_drew1 | refine below_set ?_ GE101.out | refine below_set ?_ GE119.out) | exact HB.out)⟩
          ·rw [if_neg c66] at H;have c66b0 : (t138 == t136) = false := beq_eq_false_iff_ne.mpr c66;have c66b1 : (t138 != t136) = true := bne_iff_ne.mpr c66;obtain rfl := Option.some.inj H;obtain ⟨Ao90,co90,eo90⟩ := Kd.R_slice HO_9.out;subst eo90
           go_wp2_with (first | ((with_reducible refine gate_callee (f := 15) rfl ?_);refine goesL_ (some 68) rfl rfl Try.func15 (by kernel_rfl) rfl #[.slice Ao90 t120.length co90,.int .i64 1] rfl (by (try simp only [List.map_toArray,List.map_cons,List.map_nil]);first | done | rfl | (simp only [List.length_drop,List.length_take];rfl)) ?_;(with_reducible refine (laws_markSightS.calls (fun k_ => some k_ = (.slice Ao90 t120.length co90 : Value).ownBlock) (.slice Ao90 t120.length co90) t120 1 t136 t137 w _ ?side1 ?side2 A61.out).mono ?_);(case side1 => repeat (first | (with_reducible first | exact HB.out | apply below_alloc | apply pw_below_drewN | apply below_drew1 | refine below_set ?_ GE101.out | refine below_set ?_ GE119.out) | exact HB.out));(case side2 => exact Kd.R_tight rfl HO_9.out);rintro e w91 ⟨rfl,hy0,hb,hkp⟩;refine ⟨_,rfl,?_⟩;have n0_ := Aside0.mk (Kd.R_mono (ok' := fun k_ => some k_ ≠ (.slice Ao90 t120.length co90 : Value).ownBlock) (Kd.R_keptB (HO_6.out) hkp (fun k_ hk_ hs_ => (hk_) hs_)) (fun k_ hk_ => hk_.1));have n1_ := Aside0.mk (Kd.R_reok rfl hy0 (fun k_ e_ => HO_9.out.1 k_ e_));have n2_ := Aside0.mk (Kd.R_mono (ok' := fun k_ => True) (Kd.R_keptB ((Kd.R_apart' HO_120000.out (Kd.R_typed HO_9.out) (by decide))) hkp (fun k_ hk_ hs_ => (hk_.2) hs_)) (fun k_ hk_ => trivial));have n3_ := Aside0.mk (Kd.S_mono (ok' := fun k_ => True) (Kd.S_keptB ((Kd.S_apart' HO_120001.out (Kd.R_typed HO_9.out) (by decide))) hkp (fun k_ hk_ hs_ => (hk_.2) hs_)) (fun k_ hk_ => trivial));have n4_ := Aside0.mk (blk_kept (by (with_reducible repeat (first | refine blk_drewN ?_ _ | refine blk_drew ?_ | refine blk_alloc ?_ _));exact BK101.out) hkp (fun hs_ => (fun e_ => by first | exact (Kd.R_ne HO_9.out BK101.out (by decide)) e_ | (obtain ⟨q_,hq_,cs_,hc_⟩ := e_;rw [BK101.out] at hc_;injection hc_ with hc_;injection hc_ with _ hc_ _;subst hc_;exact absurd hq_ (by decide))) hs_));have n5_ := Aside0.mk (blk_kept (by (with_reducible repeat (first | refine blk_drewN ?_ _ | refine blk_drew ?_ | refine blk_alloc ?_ _));exact BK119.out) hkp (fun hs_ => (fun e_ => by first | exact (Kd.R_ne HO_9.out BK119.out (by decide)) e_ | (obtain ⟨q_,hq_,cs_,hc_⟩ := e_;rw [BK119.out] at hc_;injection hc_ with hc_;injection hc_ with _ hc_ _;subst hc_;exact absurd hq_ (by decide))) hs_));have n6_ := Aside0.mk (hb);clear HO_6;clear HO_9;clear HO_120000;clear HO_120001;clear BK101;clear BK119;clear HB;have HO_6 := n0_;have HO_9 := n1_;have HO_120000 := n2_;have HO_120001 := n3_;have BK101 := n4_;have BK119 := n5_;have HB := n6_;clear n0_ n1_ n2_ n3_ n4_ n5_ n6_;(try clear hb);(try clear hkp);(try clear hy0)) | ((with_reducible refine gate_callee (f := 16) rfl ?_);refine goesL_ (some 71) rfl rfl Try.func16 (by kernel_rfl) rfl #[.slice Ao90 t137.length co90,.int .i64 1] rfl (by (try simp only [List.map_toArray,List.map_cons,List.map_nil]);first | done | (rw [show t137.length = t120.length from (Kd.R_reads' HO_9.out).1.symm] <;> rfl) | rfl | (simp only [List.length_drop,List.length_take];rfl)) ?_;(with_reducible refine (laws_heldSightS.calls _ _ t137 1 t138 _ ?side1 ?side2 A62.out).mono ?_);(case side1 => repeat (first | exact (Kd.R_reads' HO_9.out).2.2 | (with_reducible refine Kd.C_alloc ?_ _) | (with_reducible refine Kd.C_drewN ?_ _) | (with_reducible refine Kd.C_drew ?_)));(case side2 => rw [show t137.length = t120.length from (Kd.R_reads' HO_9.out).1.symm];exact (Kd.R_reads' HO_9.out).2.1);rintro e w' ⟨rfl,⟨nd,rfl⟩⟩;refine ⟨_,rfl,?_⟩))
           go_ret
           exact ⟨by first | rfl | (simp [errW_none,errW_some,IntKind.wrap_i64,wrap64];done) | (simp [errW_none,errW_some] <;> rfl) | (simp [*,errW_none,errW_some] <;> rfl),by repeat (first | (with_reducible first | exact HB.out | apply below_alloc | apply pw_below_drewN | apply below_drew1 | refine below_set ?_ GE101.out | refine below_set ?_ GE119.out) | exact HB.out)⟩
     ·replace c40 := Bool.eq_false_iff.mpr c40;subst c40
      have H1 : (some false) = some r := by rw [if_neg (show ¬ (false = true) by decide)] at H;exact H
      clear H;have H := H1;clear H1;obtain rfl := Option.some.inj H;(try go_wp2);have n0_ := Aside0.mk (Kd.R_drew HO_6.out);have n1_ := Aside0.mk (Kd.R_drew HO_9.out);have n2_ := Aside0.mk (Kd.R_drew HO_120000.out);have n3_ := Aside0.mk (Kd.S_drew HO_120001.out);have n4_ := Aside0.mk (blk_drew BK101.out);have n5_ := Aside0.mk (blk_drew BK119.out);have n6_ := Aside0.mk (below_drew1 HB.out);clear HO_6;clear HO_9;clear HO_120000;clear HO_120001;clear BK101;clear BK119;clear HB;have HO_6 := n0_;have HO_9 := n1_;have HO_120000 := n2_;have HO_120001 := n3_;have BK101 := n4_;have BK119 := n5_;have HB := n6_;clear n0_ n1_ n2_ n3_ n4_ n5_ n6_;refine start_ (n := 5) (S := fun w' => w'.cell? ⟨gb119,0,none⟩ = some (.slice Ao24 t113.length co24) ∧ w'.cell? ⟨gb119,1,none⟩ = some (.slice Ao27 t116.length co27) ∧ w'.cell? ⟨gb101,0,none⟩ = some (.slice A0_0 l0_0.length c0_0) ∧ w'.cell? ⟨gb101,1,none⟩ = some (.slice A0_1 l0_1.length c0_1)) (ds := []) #[false,false,false,false,false] (by kernel_rfl) rfl rfl ⟨(blk_cell BK119.out 0).trans rfl,(blk_cell BK119.out 1).trans rfl,(blk_cell BK101.out 0).trans rfl,(blk_cell BK101.out 1).trans rfl⟩ (fun hHeld => ?_);generalize wc.drew = w92 at HO_6 HO_9 HO_120000 HO_120001 BK101 BK119 HB hHeld ⊢;refine take_ (i := 0) (N := some 45) (v := ?_) (a' := ?_) #[true,false,false,false,false] rfl rfl (by kernel_rfl) (fun _ _ _ h => h) (Or.inl ⟨by rfl,?_⟩) hHeld ?_ ?_;rotate_left
      ·rintro w' ⟨s0,s1,s2,s3⟩
       go_simp;with_reducible rfl
      rotate_left
      ·simp only [Act.put,List.setIfInBounds_toArray,List.set_cons_zero,List.set_cons_succ,i64_w,i32_w];rfl
      refine take_ (i := 1) (N := some 46) (v := ?_) (a' := ?_) #[true,true,false,false,false] rfl rfl (by kernel_rfl) (fun _ _ _ h => h) (Or.inl ⟨by rfl,?_⟩) hHeld ?_ ?_;rotate_left
      ·rintro w' ⟨s0,s1,s2,s3⟩
       go_simp;with_reducible rfl
      rotate_left
      ·simp only [Act.put,List.setIfInBounds_toArray,List.set_cons_zero,List.set_cons_succ,i64_w,i32_w];rfl
      refine one_ (i := 2) (N := some 47) #[true,true,true,false,false] rfl rfl (by kernel_rfl) (by decide) (fun K hK => ?_);refine goes_ Try.func10 (by kernel_rfl) rfl #[.agg #[.slice A0_0 l0_0.length c0_0,.slice A0_1 l0_1.length c0_1]] (by rfl) rfl rfl (by (try simp only [List.map_toArray,List.map_cons,List.map_nil]);first | done | rfl | (simp only [List.length_drop,List.length_take];rfl)) ?_
      with_reducible refine (laws_toCode.calls kj11 _ _ l0_0 _ _ l0_1 t125 t128 _ ?side1 ?side2 ?side3 ?side4 A38.out).mono ?_
      (case side1 => repeat (first | exact (Kd.C_below HR0_0.out HB.out) | (with_reducible refine Kd.C_alloc ?_ _) | (with_reducible refine Kd.C_drewN ?_ _) | (with_reducible refine Kd.C_drew ?_)));(case side2 => exact HC0_0.out);(case side3 => repeat (first | exact (Kd.C_below HR0_1.out HB.out) | (with_reducible refine Kd.C_alloc ?_ _) | (with_reducible refine Kd.C_drewN ?_ _) | (with_reducible refine Kd.C_drew ?_)));(case side4 => exact HC0_1.out)
      rintro e w93 ⟨v126,v129,rfl,ho0,ho1,hb⟩
      refine ⟨_,rfl,?_⟩;have n0_ := Aside0.mk (Kd.R_below (by (with_reducible repeat (first | apply Kd.R_alloc | apply Kd.R_drewN | apply Kd.R_drew));exact HO_6.out) hb);have n1_ := Aside0.mk (Kd.R_below (by (with_reducible repeat (first | apply Kd.R_alloc | apply Kd.R_drewN | apply Kd.R_drew));exact HO_9.out) hb);have n2_ := Aside0.mk (Kd.R_elder' (by (with_reducible repeat (first | apply Kd.R_alloc | apply Kd.R_drewN | apply Kd.R_drew));exact HO_120000.out) (Kd.R_base ho0) hb);have n3_ := Aside0.mk (Kd.S_elder' (by (with_reducible repeat (first | apply Kd.S_alloc | apply Kd.S_drewN | apply Kd.S_drew));exact HO_120001.out) (Kd.S_base ho1) hb);have n4_ := Aside0.mk (Kd.R_lower (Kd.R_new' ho0 (Kd.R_lt (by (with_reducible repeat (first | apply Kd.R_alloc | apply Kd.R_drewN | apply Kd.R_drew));exact HO_120000.out))) (below_size (by repeat (first | (with_reducible first | exact HB.out | apply below_alloc | apply pw_below_drewN | apply below_drew1 | refine below_set ?_ GE101.out | refine below_set ?_ GE119.out) | exact HB.out))));have n5_ := Aside0.mk (Kd.S_lower (Kd.S_new' ho1 (Kd.S_lt (by (with_reducible repeat (first | apply Kd.S_alloc | apply Kd.S_drewN | apply Kd.S_drew));exact HO_120001.out))) (below_size (by repeat (first | (with_reducible first | exact HB.out | apply below_alloc | apply pw_below_drewN | apply below_drew1 | refine below_set ?_ GE101.out | refine below_set ?_ GE119.out) | exact HB.out))));have n6_ := Aside0.mk (blk_below (g := gb101) (o := .cells #[.slice A0_0 l0_0.length c0_0,.slice A0_1 l0_1.length c0_1] 25 (0,0)) (by (with_reducible repeat (first | refine blk_drewN ?_ _ | refine blk_drew ?_ | refine blk_alloc ?_ _));exact BK101.out) hb);have n7_ := Aside0.mk (blk_below (g := gb119) (o := .cells #[.slice Ao24 t113.length co24,.slice Ao27 t116.length co27] 33 (0,0)) (by (with_reducible repeat (first | refine blk_drewN ?_ _ | refine blk_drew ?_ | refine blk_alloc ?_ _));exact BK119.out) hb);have n8_ := Aside0.mk (below_step (by repeat (first | (with_reducible first | exact HB.out | apply below_alloc | apply pw_below_drewN | apply below_drew1 | refine below_set ?_ GE101.out | refine below_set ?_ GE119.out) | exact HB.out)) hb);clear HO_6;clear HO_9;clear HO_120000;clear HO_120001;clear BK101;clear BK119;clear HB;have HO_6 := n0_;have HO_9 := n1_;have HO_120000 := n2_;have HO_120001 := n3_;have HO127 := n4_;have HO130 := n5_;have BK101 := n6_;have BK119 := n7_;have HB := n8_;clear n0_ n1_ n2_ n3_ n4_ n5_ n6_ n7_ n8_;(try clear hb);(try clear hb2);(try clear hk);(try clear hi);(try clear ho0);(try clear ho1);obtain ⟨Ao94,co94,eo94⟩ := Kd.R_slice HO127.out;(first | subst eo94 | (injection eo94 with f1_ f2_ f3_;have f4_ := f1_.symm;have f5_ := f3_.symm;clear f1_ f2_ f3_;subst f4_;subst f5_));obtain ⟨Ao95,co95,eo95⟩ := Kd.S_slice HO130.out;(first | subst eo95 | (injection eo95 with f1_ f2_ f3_;have f4_ := f1_.symm;have f5_ := f3_.symm;clear f1_ f2_ f3_;subst f4_;subst f5_));refine hK.out _ _ ⟨(blk_cell BK119.out 0).trans rfl,(blk_cell BK119.out 1).trans rfl,(blk_cell BK101.out 0).trans rfl,(blk_cell BK101.out 1).trans rfl⟩ (fun hHeld => ?_);clear hK K;refine norm_ (a' := ?_) ?_ ?_;rotate_left
      ·show Act.put _ (some 47) _ = _
       simp only [Act.put,List.setIfInBounds_toArray,List.set_cons_zero,List.set_cons_succ,i64_w,i32_w];rfl
      refine one_ (i := 3) (N := some 48) #[true,true,true,true,false] rfl rfl (by kernel_rfl) (by decide) (fun K hK => ?_);refine goes_ Try.func13 (by kernel_rfl) rfl #[.agg #[.slice Ao24 t113.length co24,.slice Ao27 t116.length co27],.agg #[.slice Ao94 t125.length co94,.slice Ao95 t128.length co95]] (by rfl) rfl rfl (by (try simp only [List.map_toArray,List.map_cons,List.map_nil]);first | done | rfl | (simp only [List.length_drop,List.length_take];rfl)) ?_
      with_reducible refine (laws_eqCode.calls kj11 _ _ t113 _ _ t116 _ _ t125 _ _ t128 false _ ?side1 ?side2 ?side3 ?side4 ?side5 ?side6 ?side7 ?side8 A39.out).mono ?_
      (case side1 => repeat (first | exact (Kd.R_reads' HO_120000.out).2.2 | (with_reducible refine Kd.C_alloc ?_ _) | (with_reducible refine Kd.C_drewN ?_ _) | (with_reducible refine Kd.C_drew ?_)));(case side2 => exact (Kd.R_reads' HO_120000.out).2.1);(case side3 => repeat (first | exact (Kd.S_reads' HO_120001.out).2.2 | (with_reducible refine Kd.C_alloc ?_ _) | (with_reducible refine Kd.C_drewN ?_ _) | (with_reducible refine Kd.C_drew ?_)));(case side4 => exact (Kd.S_reads' HO_120001.out).2.1);(case side5 => repeat (first | exact (Kd.R_reads' HO127.out).2.2 | (with_reducible refine Kd.C_alloc ?_ _) | (with_reducible refine Kd.C_drewN ?_ _) | (with_reducible refine Kd.C_drew ?_)));(case side6 => exact (Kd.R_reads' HO127.out).2.1);(case side7 => repeat (first | exact (Kd.S_reads' HO130.out).2.2 | (with_reducible refine Kd.C_alloc ?_ _) | (with_reducible refine Kd.C_drewN ?_ _) | (with_reducible refine Kd.C_drew ?_)));(case side8 => exact (Kd.S_reads' HO130.out).2.1)
      rintro e w96 ⟨rfl,hb⟩
      refine ⟨_,rfl,?_⟩;have n0_ := Aside0.mk (Kd.R_below (by (with_reducible repeat (first | apply Kd.R_alloc | apply Kd.R_drewN | apply Kd.R_drew));exact HO_6.out) hb);have n1_ := Aside0.mk (Kd.R_below (by (with_reducible repeat (first | apply Kd.R_alloc | apply Kd.R_drewN | apply Kd.R_drew));exact HO_9.out) hb);have n2_ := Aside0.mk (Kd.R_below (by (with_reducible repeat (first | apply Kd.R_alloc | apply Kd.R_drewN | apply Kd.R_drew));exact HO_120000.out) hb);have n3_ := Aside0.mk (Kd.S_below (by (with_reducible repeat (first | apply Kd.S_alloc | apply Kd.S_drewN | apply Kd.S_drew));exact HO_120001.out) hb);have n4_ := Aside0.mk (Kd.R_below (by (with_reducible repeat (first | apply Kd.R_alloc | apply Kd.R_drewN | apply Kd.R_drew));exact HO127.out) hb);have n5_ := Aside0.mk (Kd.S_below (by (with_reducible repeat (first | apply Kd.S_alloc | apply Kd.S_drewN | apply Kd.S_drew));exact HO130.out) hb);have n6_ := Aside0.mk (blk_below (g := gb101) (o := .cells #[.slice A0_0 l0_0.length c0_0,.slice A0_1 l0_1.length c0_1] 25 (0,0)) (by (with_reducible repeat (first | refine blk_drewN ?_ _ | refine blk_drew ?_ | refine blk_alloc ?_ _));exact BK101.out) hb);have n7_ := Aside0.mk (blk_below (g := gb119) (o := .cells #[.slice Ao24 t113.length co24,.slice Ao27 t116.length co27] 33 (0,0)) (by (with_reducible repeat (first | refine blk_drewN ?_ _ | refine blk_drew ?_ | refine blk_alloc ?_ _));exact BK119.out) hb);have n8_ := Aside0.mk (below_step (by repeat (first | (with_reducible first | exact HB.out | apply below_alloc | apply pw_below_drewN | apply below_drew1 | refine below_set ?_ GE101.out | refine below_set ?_ GE119.out) | exact HB.out)) hb);clear HO_6;clear HO_9;clear HO_120000;clear HO_120001;clear HO127;clear HO130;clear BK101;clear BK119;clear HB;have HO_6 := n0_;have HO_9 := n1_;have HO_120000 := n2_;have HO_120001 := n3_;have HO127 := n4_;have HO130 := n5_;have BK101 := n6_;have BK119 := n7_;have HB := n8_;clear n0_ n1_ n2_ n3_ n4_ n5_ n6_ n7_ n8_;(try clear hb);(try clear hb2);(try clear hk);(try clear hi);refine hK.out _ _ ⟨(blk_cell BK119.out 0).trans rfl,(blk_cell BK119.out 1).trans rfl,(blk_cell BK101.out 0).trans rfl,(blk_cell BK101.out 1).trans rfl⟩ (fun hHeld => ?_);clear hK K;refine norm_ (a' := ?_) ?_ ?_;rotate_left
      ·show Act.put _ (some 48) _ = _
       simp only [Act.put,List.setIfInBounds_toArray,List.set_cons_zero,List.set_cons_succ,i64_w,i32_w];rfl
      refine pure_ (i := 4) (N := some 49) (v := ?_) (a' := ?_) #[true,true,true,true,true] rfl rfl (by kernel_rfl) (fun _ _ _ h => h) (Or.inl ⟨by rfl,?_⟩) ?_ ?_;rotate_left
      ·intro w';go_simp;with_reducible rfl
      rotate_left
      ·simp only [Act.put,List.setIfInBounds_toArray,List.set_cons_zero,List.set_cons_succ,i64_w,i32_w];rfl
      refine done_ (by kernel_rfl) ?_;(try go_wp2)
      go_ret
      exact ⟨by first | rfl | (simp [errW_none,errW_some,IntKind.wrap_i64,wrap64];done) | (simp [errW_none,errW_some] <;> rfl) | (simp [*,errW_none,errW_some] <;> rfl),by repeat (first | (with_reducible first | exact HB.out | apply below_alloc | apply pw_below_drewN | apply below_drew1 | refine below_set ?_ GE101.out | refine below_set ?_ GE119.out) | exact HB.out)⟩
end Go.Proofs.Ytgfknljhogfeaaa.G
end

section
namespace Go.Proofs.Ytgfknljhogfeaaa.G
open Go.RowKit Go.Proofs.YtgfknljhogfeaaaW.PrintWords Go.Proofs.YtgfknljhogfeaaaW.PrintLast Go.Proofs.YtgfknljhogfeaaaW.PrintMore
attribute [local go_sem] max2_int min2_int max_two min_two max_three min_three max_four min_four
set_option linter.unusedVariables false
set_option linter.unusedSimpArgs false
open Go.ChangeShapes Go.WideShapes Go.Deep in
structure Opens {α : Type} (P : Program) (t : TypeId) (d : Kd α) (Wf : α → Prop) : Prop where
  sz : P.cellsOf t = d.sz
  op : ∀ {H : Type} {enc : TypeId × Value → H} {w : World} {base : Nat} {spare : Nat → Bool} {held : Bool} {fuel : Nat} {cs : List Value} {x : DataW H × List MemPlace}, DataW.trod enc P w base spare held fuel t cs = some x → ∃ a : α, d.K w a cs ∧ Wf a
theorem opens_int {P : Program} {t : TypeId} {k : IntKind} (ht : P.underlying t = some (.int k)) (hC : P.cellsOf t = 1) : Opens P t (Kd.int k) (fun n => (Lit.int k n).wf = true) where
  sz := hC
  op := fun h => by
    obtain ⟨n, rfl, _, hw⟩ := DataW.trod_int ht h
    exact ⟨n, rfl, hw⟩
theorem list_of {α : Type} {Q : Nat → α → Prop} : ∀ n, (∀ i, i < n → ∃ y, Q i y) → ∃ l : List α, l.length = n ∧ ∀ i y, l[i]? = some y → Q i y
  | 0, _ => ⟨[], rfl, fun i y h => by simp at h⟩
  | n + 1, h => by
    obtain ⟨l, hl, hq⟩ := list_of n (fun i hi => h i (by omega))
    obtain ⟨y, hy⟩ := h n (by omega)
    refine ⟨l ++ [y], by simp [hl], fun i z hz => ?_⟩
    rcases Nat.lt_or_ge i l.length with hi | hi
    · rw [List.getElem?_append_left hi] at hz
      exact hq i z hz
    · rw [List.getElem?_append_right hi] at hz
      have : i - l.length = 0 := by
        rcases Nat.eq_zero_or_pos (i - l.length) with h0 | h0
        · exact h0
        · rw [List.getElem?_eq_none (by simp; omega)] at hz
          cases hz
      rw [this] at hz
      have e : y = z := by simpa using hz
      subst e
      have : i = n := by omega
      subst this
      exact hy
theorem opens_slice {α : Type} {P : Program} {t e : TypeId} {d : Kd α} {Wf : α → Prop} (ht : P.underlying t = some (.slice e)) (hC : P.cellsOf t = 1) (he : Opens P e d Wf) : Opens P t (Kd.slice e d) (fun l => l.length ≤ 9223372036854775807 ∧ ∀ x ∈ l, Wf x) where
  sz := hC
  op := fun {H enc w base spare held fuel cs x} h => by
    rcases Go.Deep.open_slice ht h with ⟨rfl, _⟩ | ⟨a, len, cap, m, n, D, Pl, rfl, hb, hl, hm, hmm, _, hi⟩
    · exact ⟨[], ⟨none, 0, rfl, Nat.le_refl _, rfl, by simp, fun h => absurd h (by simp)⟩, by simp, by simp⟩
    · have hlen : len ≤ m := by rw [hmm]; split <;> omega
      obtain ⟨l, hll, hq⟩ := list_of (Q := fun i y => (∃ c, c.length = d.sz ∧ d.K w y c ∧ ∀ j u, c[j]? = some u → w.cell? (a.add (i * d.sz + j)) = some u) ∧ Wf y) len (fun i him => by
        obtain ⟨cs', hc, ht'⟩ := hi i (by omega)
        obtain ⟨y, hK, hW⟩ := he.op ht'
        obtain ⟨_, hcl, hat⟩ := World.cells?_some hc
        refine ⟨y, ⟨cs', d.K_len hK, hK, fun j u hu => ?_⟩, hW⟩
        have hj : j < cs'.length := (List.getElem?_eq_some_iff.1 hu).1
        have h1 := hat j (by rw [he.sz, ← d.K_len hK]; exact hj)
        rw [← he.sz, ← Go.Deep.add_add, h1, hu])
      refine ⟨l, ⟨some a, cap, by rw [hll], by rw [hll]; exact hl, rfl, by rw [hll]; have := hm; unfold maxLen at this; omega, fun _ => ⟨a, rfl, fun j p hj => (hq j p hj).1⟩⟩, by rw [hll]; have := hm; unfold maxLen at this; omega, fun y hy => ?_⟩
      obtain ⟨j, hj, rfl⟩ := List.mem_iff_getElem.1 hy
      exact (hq j _ (List.getElem?_eq_getElem hj)).2
def offs (P : Program) : List TypeId → Nat → Nat
  | [], _ => 0
  | _ :: _, 0 => 0
  | t :: ts, i + 1 => P.cellsOf t + offs P ts i
def OpensF {α : Type} (P : Program) (ts : List TypeId) (d : Kd α) (Wf : α → Prop) : Prop :=
  ∀ {H : Type} {enc : TypeId × Value → H} {w : World} {base : Nat} {spare : Nat → Bool} {held : Bool} {n : Nat} {cs : List Value}, cs.length = d.sz → (∀ i t, ts[i]? = some t → ∃ x, DataW.trod enc P w base spare held n t ((cs.drop (offs P ts i)).take (P.cellsOf t)) = some x) → ∃ a : α, d.K w a cs ∧ Wf a
theorem opensF_one {α : Type} {P : Program} {t : TypeId} {d : Kd α} {Wf : α → Prop} (h : Opens P t d Wf) : OpensF P [t] d Wf := fun {H enc w base spare held n cs} hl hf => by
  obtain ⟨x, hx⟩ := hf 0 t rfl
  simp only [offs, List.drop_zero] at hx
  rw [List.take_of_length_le (by rw [hl, h.sz]; exact Nat.le_refl _)] at hx
  exact h.op hx
theorem opensF_cons {α β : Type} {P : Program} {t : TypeId} {ts : List TypeId} {d : Kd α} {d' : Kd β} {Wf : α → Prop} {Wf' : β → Prop} (h : Opens P t d Wf) (h' : OpensF P ts d' Wf') : OpensF P (t :: ts) (Kd.pair d d') (fun x => Wf x.1 ∧ Wf' x.2) := fun {H enc w base spare held n cs} hl hf => by
  have hl' : cs.length = d.sz + d'.sz := hl
  obtain ⟨x, hx⟩ := hf 0 t rfl
  simp only [offs, List.drop_zero] at hx
  obtain ⟨a, hK, hW⟩ := h.op hx
  obtain ⟨b, hK', hW'⟩ := h' (enc := enc) (w := w) (base := base) (spare := spare) (held := held) (n := n) (cs := cs.drop d.sz) (by rw [List.length_drop, hl']; omega) (fun i t' ht' => by
    obtain ⟨y, hy⟩ := hf (i + 1) t' (by simpa using ht')
    refine ⟨y, ?_⟩
    rw [List.drop_drop]
    simpa only [offs, h.sz] using hy)
  refine ⟨(a, b), ⟨_, _, (List.take_append_drop d.sz cs).symm, ?_, hK'⟩, hW, hW'⟩
  rw [← h.sz]
  exact hK
theorem opens_struct {α β : Type} {P : Program} {t : TypeId} {fs : Array Field} {d : Kd α} {Wf : α → Prop} (f : β → α) (g : α → β) (hfg : ∀ a, f (g a) = a) (ht : P.underlying t = some (.struct fs)) (hC : P.cellsOf t = d.sz)
    (ho : ((List.range fs.size).all fun i => decide ((fs[i]?.map Field.offset) = some (offs P (fs.toList.map Field.type) i))) = true) (h : OpensF P (fs.toList.map Field.type) d Wf) : Opens P t (Kd.iso d f) (fun x => Wf (f x)) where
  sz := hC
  op := fun {H enc w base spare held fuel cs x} hx => by
    obtain ⟨xs, n, _, _, hlen, hxl, hf⟩ := DataW.trod_struct ht hx
    obtain ⟨a, hK, hW⟩ := h (enc := enc) (w := w) (base := base) (spare := spare) (held := held) (n := n) (cs := cs) (by rw [hlen, hC]) (fun i t' ht' => by
      have hi : i < fs.size := by
        have := (List.getElem?_eq_some_iff.1 ht').1
        simpa using this
      have e : fs[i]? = some fs[i] := Array.getElem?_eq_getElem hi
      have et : fs[i].type = t' := by
        rw [List.getElem?_map] at ht'
        have : fs.toList[i]? = some fs[i] := by simp [hi]
        rw [this] at ht'
        simpa using ht'
      have eo := of_decide_eq_true (List.all_eq_true.1 ho i (List.mem_range.2 hi))
      rw [e] at eo
      have eo' : fs[i].offset = offs P (fs.toList.map Field.type) i := by simpa using eo
      have h1 := hf i fs[i] e
      rw [et, eo'] at h1
      exact ⟨_, h1.trans (List.getElem?_eq_getElem (show i < xs.length by omega))⟩)
    exact ⟨g a, by show d.K w (f (g a)) cs; rw [hfg]; exact hK, by show Wf (f (g a)); rw [hfg]; exact hW⟩
theorem offs_rep {P : Program} {e : TypeId} : ∀ (n i : Nat), i ≤ n → offs P (List.replicate n e) i = i * P.cellsOf e
  | 0, i, h => by
    obtain rfl : i = 0 := by omega
    simp [offs]
  | n + 1, 0, _ => by simp [List.replicate_succ, offs]
  | n + 1, i + 1, h => by
    rw [List.replicate_succ]
    show P.cellsOf e + offs P (List.replicate n e) i = _
    rw [offs_rep n i (by omega), Nat.succ_mul, Nat.add_comm]
theorem opens_array {α β : Type} {P : Program} {t e : TypeId} {n : Nat} {d : Kd α} {Wf : α → Prop} (f : β → α) (g : α → β) (hfg : ∀ a, f (g a) = a) (ht : P.underlying t = some (.array n e)) (hC : P.cellsOf t = d.sz)
    (h : OpensF P (List.replicate n e) d Wf) : Opens P t (Kd.iso d f) (fun x => Wf (f x)) where
  sz := hC
  op := fun {H enc w base spare held fuel cs x} hx => by
    obtain ⟨xs, m, _, _, hlen, hxl, hf⟩ := DataW.trod_array ht hx
    obtain ⟨a, hK, hW⟩ := h (enc := enc) (w := w) (base := base) (spare := spare) (held := held) (n := m) (cs := cs) (by rw [hlen, hC]) (fun i t' ht' => by
      have hi : i < n := by
        have := (List.getElem?_eq_some_iff.1 ht').1
        simpa using this
      have et : e = t' := by
        rw [List.getElem?_replicate, if_pos hi] at ht'
        exact Option.some.inj ht'
      subst et
      have h1 := hf i hi
      rw [offs_rep n i (by omega)]
      exact ⟨_, h1.trans (List.getElem?_eq_getElem (show i < xs.length by omega))⟩)
    exact ⟨g a, by show d.K w (f (g a)) cs; rw [hfg]; exact hK, by show Wf (f (g a)); rw [hfg]; exact hW⟩
theorem op5 : Opens Try.prog 5 (Kd.int .u8) (fun x : Int => (Lit.int .u8 x).wf = true) := opens_int (k := .u8) Try.underlying5 (by kernel_rfl)
theorem op67 : Opens Try.prog 67 k67 (fun x : S67 => (Lit.int .u8 x.f0).wf = true ∧ (Lit.int .u8 x.f1).wf = true ∧ (Lit.int .u8 x.f2).wf = true ∧ (Lit.int .u8 x.f3).wf = true ∧ (Lit.int .u8 x.f4).wf = true ∧ (Lit.int .u8 x.f5).wf = true ∧ (Lit.int .u8 x.f6).wf = true ∧ (Lit.int .u8 x.f7).wf = true ∧ (Lit.int .u8 x.f8).wf = true ∧ (Lit.int .u8 x.f9).wf = true ∧ (Lit.int .u8 x.f10).wf = true ∧ (Lit.int .u8 x.f11).wf = true ∧ (Lit.int .u8 x.f12).wf = true ∧ (Lit.int .u8 x.f13).wf = true ∧ (Lit.int .u8 x.f14).wf = true ∧ (Lit.int .u8 x.f15).wf = true ∧ (Lit.int .u8 x.f16).wf = true ∧ (Lit.int .u8 x.f17).wf = true ∧ (Lit.int .u8 x.f18).wf = true ∧ (Lit.int .u8 x.f19).wf = true ∧ (Lit.int .u8 x.f20).wf = true ∧ (Lit.int .u8 x.f21).wf = true ∧ (Lit.int .u8 x.f22).wf = true ∧ (Lit.int .u8 x.f23).wf = true) := opens_array (fun x : S67 => (x.f0, x.f1, x.f2, x.f3, x.f4, x.f5, x.f6, x.f7, x.f8, x.f9, x.f10, x.f11, x.f12, x.f13, x.f14, x.f15, x.f16, x.f17, x.f18, x.f19, x.f20, x.f21, x.f22, x.f23)) (fun a => ⟨a.1, a.2.1, a.2.2.1, a.2.2.2.1, a.2.2.2.2.1, a.2.2.2.2.2.1, a.2.2.2.2.2.2.1, a.2.2.2.2.2.2.2.1, a.2.2.2.2.2.2.2.2.1, a.2.2.2.2.2.2.2.2.2.1, a.2.2.2.2.2.2.2.2.2.2.1, a.2.2.2.2.2.2.2.2.2.2.2.1, a.2.2.2.2.2.2.2.2.2.2.2.2.1, a.2.2.2.2.2.2.2.2.2.2.2.2.2.1, a.2.2.2.2.2.2.2.2.2.2.2.2.2.2.1, a.2.2.2.2.2.2.2.2.2.2.2.2.2.2.2.1, a.2.2.2.2.2.2.2.2.2.2.2.2.2.2.2.2.1, a.2.2.2.2.2.2.2.2.2.2.2.2.2.2.2.2.2.1, a.2.2.2.2.2.2.2.2.2.2.2.2.2.2.2.2.2.2.1, a.2.2.2.2.2.2.2.2.2.2.2.2.2.2.2.2.2.2.2.1, a.2.2.2.2.2.2.2.2.2.2.2.2.2.2.2.2.2.2.2.2.1, a.2.2.2.2.2.2.2.2.2.2.2.2.2.2.2.2.2.2.2.2.2.1, a.2.2.2.2.2.2.2.2.2.2.2.2.2.2.2.2.2.2.2.2.2.2.1, a.2.2.2.2.2.2.2.2.2.2.2.2.2.2.2.2.2.2.2.2.2.2.2⟩) (fun _ => rfl) Try.underlying67 (by kernel_rfl) (opensF_cons op5 (opensF_cons op5 (opensF_cons op5 (opensF_cons op5 (opensF_cons op5 (opensF_cons op5 (opensF_cons op5 (opensF_cons op5 (opensF_cons op5 (opensF_cons op5 (opensF_cons op5 (opensF_cons op5 (opensF_cons op5 (opensF_cons op5 (opensF_cons op5 (opensF_cons op5 (opensF_cons op5 (opensF_cons op5 (opensF_cons op5 (opensF_cons op5 (opensF_cons op5 (opensF_cons op5 (opensF_cons op5 (opensF_one op5))))))))))))))))))))))))
theorem op22 : Opens Try.prog 22 (Kd.slice 67 k67) (fun x : List (S67) => (x.length ≤ 9223372036854775807 ∧ ∀ x_ ∈ x, (Lit.int .u8 x_.f0).wf = true ∧ (Lit.int .u8 x_.f1).wf = true ∧ (Lit.int .u8 x_.f2).wf = true ∧ (Lit.int .u8 x_.f3).wf = true ∧ (Lit.int .u8 x_.f4).wf = true ∧ (Lit.int .u8 x_.f5).wf = true ∧ (Lit.int .u8 x_.f6).wf = true ∧ (Lit.int .u8 x_.f7).wf = true ∧ (Lit.int .u8 x_.f8).wf = true ∧ (Lit.int .u8 x_.f9).wf = true ∧ (Lit.int .u8 x_.f10).wf = true ∧ (Lit.int .u8 x_.f11).wf = true ∧ (Lit.int .u8 x_.f12).wf = true ∧ (Lit.int .u8 x_.f13).wf = true ∧ (Lit.int .u8 x_.f14).wf = true ∧ (Lit.int .u8 x_.f15).wf = true ∧ (Lit.int .u8 x_.f16).wf = true ∧ (Lit.int .u8 x_.f17).wf = true ∧ (Lit.int .u8 x_.f18).wf = true ∧ (Lit.int .u8 x_.f19).wf = true ∧ (Lit.int .u8 x_.f20).wf = true ∧ (Lit.int .u8 x_.f21).wf = true ∧ (Lit.int .u8 x_.f22).wf = true ∧ (Lit.int .u8 x_.f23).wf = true)) := opens_slice Try.underlying22 (by kernel_rfl) op67
theorem op55 : Opens Try.prog 55 (Kd.slice 5 (Kd.int .u8)) (fun x : List Int => (x.length ≤ 9223372036854775807 ∧ ∀ x_ ∈ x, (Lit.int .u8 x_).wf = true)) := opens_slice Try.underlying55 (by kernel_rfl) op5
theorem op23 : Opens Try.prog 23 (Kd.slice 55 (Kd.slice 5 (Kd.int .u8))) (fun x : List (List Int) => (x.length ≤ 9223372036854775807 ∧ ∀ x_ ∈ x, (x_.length ≤ 9223372036854775807 ∧ ∀ x__ ∈ x_, (Lit.int .u8 x__).wf = true))) := opens_slice Try.underlying23 (by kernel_rfl) op55
theorem op25 : Opens Try.prog 25 k25 (fun x : S25 => (x.f0.length ≤ 9223372036854775807 ∧ ∀ x_ ∈ x.f0, (Lit.int .u8 x_.f0).wf = true ∧ (Lit.int .u8 x_.f1).wf = true ∧ (Lit.int .u8 x_.f2).wf = true ∧ (Lit.int .u8 x_.f3).wf = true ∧ (Lit.int .u8 x_.f4).wf = true ∧ (Lit.int .u8 x_.f5).wf = true ∧ (Lit.int .u8 x_.f6).wf = true ∧ (Lit.int .u8 x_.f7).wf = true ∧ (Lit.int .u8 x_.f8).wf = true ∧ (Lit.int .u8 x_.f9).wf = true ∧ (Lit.int .u8 x_.f10).wf = true ∧ (Lit.int .u8 x_.f11).wf = true ∧ (Lit.int .u8 x_.f12).wf = true ∧ (Lit.int .u8 x_.f13).wf = true ∧ (Lit.int .u8 x_.f14).wf = true ∧ (Lit.int .u8 x_.f15).wf = true ∧ (Lit.int .u8 x_.f16).wf = true ∧ (Lit.int .u8 x_.f17).wf = true ∧ (Lit.int .u8 x_.f18).wf = true ∧ (Lit.int .u8 x_.f19).wf = true ∧ (Lit.int .u8 x_.f20).wf = true ∧ (Lit.int .u8 x_.f21).wf = true ∧ (Lit.int .u8 x_.f22).wf = true ∧ (Lit.int .u8 x_.f23).wf = true) ∧ (x.f1.length ≤ 9223372036854775807 ∧ ∀ x_ ∈ x.f1, (x_.length ≤ 9223372036854775807 ∧ ∀ x__ ∈ x_, (Lit.int .u8 x__).wf = true))) := opens_struct (fun x : S25 => (x.f0, x.f1)) (fun a => ⟨a.1, a.2⟩) (fun _ => rfl) Try.underlying25 (by kernel_rfl) (by kernel_rfl) (opensF_cons op22 (opensF_one op23))
end Go.Proofs.Ytgfknljhogfeaaa.G
end

section
namespace Go.Proofs.Ytgfknljhogfeaaa.G.Pure
open Go.RowKit Go.Proofs.Ytgfknljhogfeaaa.G Go.Proofs.YtgfknljhogfeaaaW.PrintWords Go.Proofs.YtgfknljhogfeaaaW.PrintLast Go.Proofs.YtgfknljhogfeaaaW.PrintMore
set_option linter.unusedVariables false
set_option linter.unusedSimpArgs false
theorem w64 {n : Int} (h0 : -9223372036854775808 ≤ n) (h1 : n ≤ 9223372036854775807) : wrap64 n = n := by
  unfold wrap64
  omega
theorem loop_inv {σ γ : Type} (L : Nat → σ → Option γ) (n : Nat) (I : Nat → σ → Prop) (R : γ → Prop)
    (hs : ∀ k i s, i < n → I i s → (∃ s', I (i + 1) s' ∧ L (k + 1) s = L k s') ∨ (∃ r, R r ∧ L (k + 1) s = some r))
    (he : ∀ k s, I n s → ∃ r, R r ∧ L (k + 1) s = some r) : ∀ k s, I 0 s → n < k → ∃ r, R r ∧ L k s = some r := by
  have go : ∀ d i k s, i + d = n → I i s → d < k → ∃ r, R r ∧ L k s = some r := by
    intro d
    induction d with
    | zero =>
      intro i k s hi hI hk
      obtain ⟨k, rfl⟩ : ∃ m, k = m + 1 := ⟨k - 1, by omega⟩
      obtain rfl : i = n := by omega
      exact he k s hI
    | succ d ih =>
      intro i k s hi hI hk
      obtain ⟨k, rfl⟩ : ∃ m, k = m + 1 := ⟨k - 1, by omega⟩
      rcases hs k i s (by omega) hI with ⟨s', hI', h⟩ | h
      · rw [h]
        exact ih (i + 1) k s' (by omega) hI' (by omega)
      · exact h
  intro k s hI hk
  exact go n 0 k s (by omega) hI hk
theorem take_set_succ {α : Type} {l : List α} {i : Nat} (h : i < l.length) (v : α) : (l.set i v).take (i + 1) = l.take i ++ [v] := by
  rw [List.take_succ_eq_append_getElem (by simpa using h)]
  simp [List.take_set_of_le]
theorem rd_nat {l : List Int} {i : Nat} (h : i < l.length) : rd l (i : Int) = l[i] := by
  simp [rd, List.getD_eq_getElem?_getD, List.getElem?_eq_getElem h]
end Go.Proofs.Ytgfknljhogfeaaa.G.Pure
end

section
namespace Go.Proofs.Ytgfknljhogfeaaa.G.Pure
open Go.RowKit Go.Proofs.Ytgfknljhogfeaaa.G Go.Proofs.YtgfknljhogfeaaaW.PrintWords Go.Proofs.YtgfknljhogfeaaaW.PrintLast Go.Proofs.YtgfknljhogfeaaaW.PrintMore
set_option linter.unusedVariables false
set_option linter.unusedSimpArgs false
theorem loop_inv2 {σ γ : Type} (L : Nat → σ → Option γ) (n K0 : Nat) (I : Nat → σ → Prop) (R : γ → Prop)
    (hs : ∀ k i s, i < n → K0 ≤ k → I i s → (∃ s', I (i + 1) s' ∧ L (k + 1) s = L k s') ∨ (∃ r, R r ∧ L (k + 1) s = some r))
    (he : ∀ k s, K0 ≤ k → I n s → ∃ r, R r ∧ L (k + 1) s = some r) : ∀ k s, I 0 s → n + K0 < k → ∃ r, R r ∧ L k s = some r := by
  have go : ∀ d i k s, i + d = n → I i s → d + K0 < k → ∃ r, R r ∧ L k s = some r := by
    intro d
    induction d with
    | zero =>
      intro i k s hi hI hk
      obtain ⟨k, rfl⟩ : ∃ m, k = m + 1 := ⟨k - 1, by omega⟩
      obtain rfl : i = n := by omega
      exact he k s (by omega) hI
    | succ d ih =>
      intro i k s hi hI hk
      obtain ⟨k, rfl⟩ : ∃ m, k = m + 1 := ⟨k - 1, by omega⟩
      rcases hs k i s (by omega) (by omega) hI with ⟨s', hI', h⟩ | h
      · rw [h]
        exact ih (i + 1) k s' (by omega) hI' (by omega)
      · exact h
  intro k s hI hk
  exact go n 0 k s (by omega) hI (by omega)
end Go.Proofs.Ytgfknljhogfeaaa.G.Pure
end

section
namespace Go.Proofs.Ytgfknljhogfeaaa.G.Pure
open Go.RowKit Go.Proofs.Ytgfknljhogfeaaa.G Go.Proofs.YtgfknljhogfeaaaW.PrintWords Go.Proofs.YtgfknljhogfeaaaW.PrintLast Go.Proofs.YtgfknljhogfeaaaW.PrintMore
set_option linter.unusedVariables false
set_option linter.unusedSimpArgs false
theorem eq_loop (L : Nat → Int → Option Bool) (a b : List Int) (hlen : a.length = b.length)
    (hs : ∀ k i, i < a.length → L (k + 1) (i : Int) = if rd a (i : Int) = rd b (i : Int) then L k ((i + 1 : Nat) : Int) else some false) (he : ∀ k, L (k + 1) (a.length : Int) = some true) : ∀ k, a.length < k → L k 0 = some (decide (a = b)) := by
  intro k hk
  obtain ⟨r, hr, h⟩ := loop_inv L a.length (fun i s => s = (i : Int) ∧ ∀ j (h : j < a.length), j < i → a[j] = b[j]) (fun r => r = decide (a = b))
    (fun k i s hi ⟨h1, h2⟩ => by
      subst h1
      rw [hs k i hi, rd_nat hi, rd_nat (by omega)]
      by_cases h : a[i] = b[i]
      · rw [if_pos h]
        refine .inl ⟨((i + 1 : Nat) : Int), ⟨rfl, fun j hj hji => ?_⟩, rfl⟩
        rcases Nat.lt_succ_iff_lt_or_eq.1 hji with e | e
        · exact h2 j hj e
        · subst e
          exact h
      · rw [if_neg h]
        refine .inr ⟨false, ?_, rfl⟩
        rw [decide_eq_false]
        rintro rfl
        exact h rfl)
    (fun k s ⟨h1, h2⟩ => by
      subst h1
      refine ⟨true, ?_, he k⟩
      rw [decide_eq_true]
      exact List.ext_getElem hlen fun j h1 h3 => h2 j h1 h1) k 0 ⟨rfl, fun j _ h => absurd h (Nat.not_lt_zero _)⟩ hk
  subst hr
  exact h
end Go.Proofs.Ytgfknljhogfeaaa.G.Pure
end

section
namespace Go.Proofs.Ytgfknljhogfeaaa.G.Pure
open Go.RowKit Go.Proofs.Ytgfknljhogfeaaa.G Go.Proofs.YtgfknljhogfeaaaW.PrintWords Go.Proofs.YtgfknljhogfeaaaW.PrintLast Go.Proofs.YtgfknljhogfeaaaW.PrintMore
set_option linter.unusedVariables false
set_option linter.unusedSimpArgs false
theorem eqWord_self (k : Nat) (a : List Int) (hl : a.length ≤ 1048576) (hk : a.length < k) : laws_eqWord.f k a a = some true := by
  unfold laws_eqWord.f
  rw [if_pos rfl]
  have e := eq_loop (fun k i => laws_eqWord.l0 k a a i) a a rfl (fun k i hi => by
    simp only [laws_eqWord.l0]
    rw [if_pos (by omega), if_pos (by omega), if_pos (by omega), w64 (by omega) (by omega)]
    rfl) (fun k => by
    simp only [laws_eqWord.l0]
    rw [if_neg (by omega)]) k hk
  rw [e]
  simp
end Go.Proofs.Ytgfknljhogfeaaa.G.Pure
end

section
namespace Go.Proofs.Ytgfknljhogfeaaa.G.Pure
open Go.RowKit Go.Proofs.Ytgfknljhogfeaaa.G Go.Proofs.YtgfknljhogfeaaaW.PrintWords Go.Proofs.YtgfknljhogfeaaaW.PrintLast Go.Proofs.YtgfknljhogfeaaaW.PrintMore
set_option linter.unusedVariables false
set_option linter.unusedSimpArgs false
theorem toWord_eq (k : Nat) (l : List Int) (hl : l.length ≤ 1048576) (hk : l.length < k) : laws_toWord.f k l = some l := by
  unfold laws_toWord.f
  rw [if_pos (by omega), if_pos (by omega)]
  obtain ⟨r, hr, h⟩ := loop_inv (fun k (s : List Int × Int) => laws_toWord.l0 k l s.1 s.2) l.length (fun i s => s.2 = (i : Int) ∧ s.1.length = l.length ∧ s.1.take i = l.take i) (fun r => r = l)
    (fun k i s hi ⟨h1, h2, h3⟩ => by
      obtain ⟨acc, x⟩ := s
      simp only at h1 h2 h3
      subst h1
      refine .inl ⟨(acc.set i l[i], ((i + 1 : Nat) : Int)), ⟨rfl, by simpa using h2, ?_⟩, ?_⟩
      · rw [take_set_succ (by omega), h3, List.take_succ_eq_append_getElem hi]
      · simp only [laws_toWord.l0]
        rw [if_pos (by omega), if_pos (by omega), if_pos (by omega), rd_nat hi, w64 (by omega) (by omega)]
        rfl)
    (fun k s ⟨h1, h2, h3⟩ => by
      obtain ⟨acc, x⟩ := s
      simp only at h1 h2 h3
      subst h1
      refine ⟨acc, ?_, ?_⟩
      · rw [List.take_of_length_le (by omega), List.take_of_length_le (by omega)] at h3
        exact h3
      · simp only [laws_toWord.l0]
        rw [if_neg (by omega)]) k (List.replicate l.length 0, 0) ⟨rfl, by simp, by simp⟩ hk
  subst hr
  simpa using h
end Go.Proofs.Ytgfknljhogfeaaa.G.Pure
end

section
namespace Go.Proofs.Ytgfknljhogfeaaa.G.Pure
open Go.RowKit Go.Proofs.Ytgfknljhogfeaaa.G Go.Proofs.YtgfknljhogfeaaaW.PrintWords Go.Proofs.YtgfknljhogfeaaaW.PrintLast Go.Proofs.YtgfknljhogfeaaaW.PrintMore
set_option linter.unusedVariables false
set_option linter.unusedSimpArgs false
abbrev Ws := List (List Int)
theorem rdX {l : Ws} {i : Nat} (h : i < l.length) : rd_L2 l (i : Int) = l[i] := by
  simp [rd_L2, List.getD_eq_getElem?_getD, List.getElem?_eq_getElem h]
theorem szWord_eq (l : List Int) (a : Int) (h0 : 0 ≤ a) (h1 : a ≤ 1048576) (hl : l.length ≤ 9223372036854775807) : laws_szWord.f l a = some (if a - l.length < 0 then -1 else a - l.length) := by
  unfold laws_szWord.f
  rw [w64 (by omega) (by omega)]
  split <;> rfl
theorem szWordS_ok {k : Nat} {l : Ws} {a0 : Int} (ha0 : 0 ≤ a0) (ha1 : a0 ≤ 1048576) (hl : l.length ≤ 9223372036854775807) (hi : ∀ x ∈ l, x.length ≤ 9223372036854775807) (hk : 1100000 < k) : ∃ n, laws_szWordS.f k l a0 = some n ∧ (n < 0 ∨ ¬ n < 0 ∧ n ≤ 1048576 ∧ l.length ≤ 1048576 ∧ ∀ x ∈ l, x.length ≤ 1048576) := by
  unfold laws_szWordS.f
  rw [w64 (by omega) (by omega)]
  by_cases h : a0 - (l.length : Int) < 0
  · rw [if_pos h]
    exact ⟨-1, rfl, .inl (by omega)⟩
  · rw [if_neg h]
    obtain ⟨r, hr, h'⟩ := loop_inv (fun k (s : Int × Int) => laws_szWordS.l0 k l s.1 s.2) l.length (fun i s => s.2 = (i : Int) ∧ 0 ≤ s.1 ∧ s.1 ≤ 1048576 ∧ ∀ j (h : j < l.length), j < i → l[j].length ≤ 1048576) (fun n => n < 0 ∨ ¬ n < 0 ∧ n ≤ 1048576 ∧ l.length ≤ 1048576 ∧ ∀ x ∈ l, x.length ≤ 1048576)
      (fun k i s hil ⟨h1, h2, h3, h4⟩ => by
        obtain ⟨a, x⟩ := s
        simp only at h1 h2 h3 h4
        subst h1
        have hx := hi _ (List.getElem_mem hil)
        simp only [laws_szWordS.l0]
        rw [if_pos (by omega), if_pos (by omega), rdX hil, szWord_eq _ _ h2 h3 hx]
        simp only [Option.bind_some]
        by_cases hneg : a - (l[i].length : Int) < 0
        · rw [if_pos hneg, if_pos (by omega)]
          exact .inr ⟨-1, .inl (by omega), rfl⟩
        · rw [if_neg hneg, if_neg hneg, w64 (by omega) (by omega)]
          refine .inl ⟨(a - (l[i].length : Int), ((i + 1 : Nat) : Int)), ⟨rfl, by simp only; omega, by simp only; omega, fun j hj hji => ?_⟩, rfl⟩
          rcases Nat.lt_succ_iff_lt_or_eq.1 hji with e | e
          · exact h4 j hj e
          · subst e
            omega)
      (fun k s ⟨h1, h2, h3, h4⟩ => by
        obtain ⟨a, x⟩ := s
        simp only at h1 h2 h3 h4
        subst h1
        refine ⟨a, .inr ⟨by omega, by omega, by omega, fun x hx => ?_⟩, ?_⟩
        · obtain ⟨j, hj, rfl⟩ := List.mem_iff_getElem.1 hx
          exact h4 j hj hj
        · simp only [laws_szWordS.l0]
          rw [if_neg (by omega)]) k (a0 - (l.length : Int), 0) ⟨rfl, by simp only; omega, by simp only; omega, fun j _ h => absurd h (Nat.not_lt_zero _)⟩ (by omega)
    exact ⟨r, h', hr⟩
theorem toWordS_eq {k : Nat} {l : Ws} (hl : l.length ≤ 1048576) (hi : ∀ x ∈ l, x.length ≤ 1048576) (hk : 2200000 < k) : laws_toWordS.f k l = some l := by
  unfold laws_toWordS.f
  rw [if_pos (by omega), if_pos (by omega)]
  obtain ⟨r, hr, h⟩ := loop_inv2 (fun k (s : Ws × Int) => laws_toWordS.l0 k l s.1 s.2) l.length 1048577 (fun i s => s.2 = (i : Int) ∧ s.1.length = l.length ∧ s.1.take i = l.take i) (fun r => r = l)
    (fun k i s hil hk ⟨h1, h2, h3⟩ => by
      obtain ⟨acc, x⟩ := s
      simp only at h1 h2 h3
      subst h1
      refine .inl ⟨(acc.set i l[i], ((i + 1 : Nat) : Int)), ⟨rfl, by simpa using h2, ?_⟩, ?_⟩
      · rw [take_set_succ (by omega), h3, List.take_succ_eq_append_getElem hil]
      · simp only [laws_toWordS.l0]
        rw [if_pos (by omega), if_pos (by omega), rdX hil, toWord_eq k _ (hi _ (List.getElem_mem hil)) (by have := hi _ (List.getElem_mem hil); omega)]
        simp only [Option.bind_some]
        rw [if_pos (by omega), w64 (by omega) (by omega)]
        rfl)
    (fun k s hk ⟨h1, h2, h3⟩ => by
      obtain ⟨acc, x⟩ := s
      simp only at h1 h2 h3
      subst h1
      refine ⟨acc, ?_, ?_⟩
      · rw [List.take_of_length_le (by omega), List.take_of_length_le (by omega)] at h3
        exact h3
      · simp only [laws_toWordS.l0]
        rw [if_neg (by omega)]) k (List.replicate l.length [], 0) ⟨rfl, by simp, by simp⟩ (by omega)
  subst hr
  simpa using h
theorem eqWordS_self {k : Nat} {l : Ws} (hl : l.length ≤ 1048576) (hi : ∀ x ∈ l, x.length ≤ 1048576) (hk : 2200000 < k) : laws_eqWordS.f k l l = some true := by
  unfold laws_eqWordS.f
  rw [if_pos rfl]
  obtain ⟨r, hr, h⟩ := loop_inv2 (fun k (s : Int) => laws_eqWordS.l0 k l l s) l.length 1048577 (fun i s => s = (i : Int)) (fun r => r = true)
    (fun k i s hil hk h1 => by
      subst h1
      refine .inl ⟨((i + 1 : Nat) : Int), rfl, ?_⟩
      simp only [laws_eqWordS.l0]
      rw [if_pos (by omega), if_pos (by omega), if_pos (by omega), rdX hil, eqWord_self k _ (hi _ (List.getElem_mem hil)) (by have := hi _ (List.getElem_mem hil); omega)]
      simp only [Option.bind_some, if_true]
      rw [w64 (by omega) (by omega)]
      rfl)
    (fun k s hk h1 => by
      subst h1
      refine ⟨true, rfl, ?_⟩
      simp only [laws_eqWordS.l0]
      rw [if_neg (by omega)]) k 0 rfl (by omega)
  subst hr
  exact h
theorem markWord_from (k : Nat) (a : List Int) (m0 : Int) (hl : a.length ≤ 1048576) (hk : a.length < k) (h0 : 0 ≤ m0) (h1 : m0 ≤ 4000000000000000000) : ∃ l, laws_markWord.f k a m0 = some (m0 + (a.length : Int), l) ∧ l.length = a.length := by
  obtain ⟨r, ⟨g1, g2⟩, h⟩ := loop_inv (fun k (s : List Int × Int × Int) => laws_markWord.l0 k s.1 s.2.1 s.2.2) a.length
    (fun i s => s.2.2 = (i : Int) ∧ s.2.1 = m0 + (i : Int) ∧ s.1.length = a.length)
    (fun r => r.1 = m0 + (a.length : Int) ∧ r.2.length = a.length)
    (fun k i s hi ⟨h1, h2, h3⟩ => by
      obtain ⟨acc, m, x⟩ := s
      simp only at h1 h2 h3
      subst h1 h2
      refine .inl ⟨(acc.set i ((m0 + (i : Int)) % 256), m0 + ((i + 1 : Nat) : Int), ((i + 1 : Nat) : Int)), ⟨rfl, rfl, by simpa using h3⟩, ?_⟩
      simp only [laws_markWord.l0]
      rw [if_pos (by omega), if_pos (by omega), w64 (n := m0 + (i : Int) + 1) (by omega) (by omega), w64 (n := (i : Int) + 1) (by omega) (by omega), Int.toNat_natCast]
      rw [show m0 + (i : Int) + 1 = m0 + ((i + 1 : Nat) : Int) by omega, show ((i + 1 : Nat) : Int) = (i : Int) + 1 by omega])
    (fun k s ⟨h1, h2, h3⟩ => by
      obtain ⟨acc, m, x⟩ := s
      simp only at h1 h2 h3
      subst h1 h2
      refine ⟨(m0 + (a.length : Int), acc), ⟨rfl, h3⟩, ?_⟩
      simp only [laws_markWord.l0]
      rw [if_neg (by omega)]) k (a, m0, 0) ⟨rfl, by simp, rfl⟩ hk
  obtain ⟨m, l⟩ := r
  simp only at g1 g2
  subst g1
  exact ⟨l, h, g2⟩
theorem markWordS_from {k : Nat} {a : Ws} {m0 : Int} (hl : a.length ≤ 1048576) (hi : ∀ x ∈ a, x.length ≤ 1048576) (hk : 2200000 < k) (h0 : 0 ≤ m0) (h1 : m0 ≤ 1000000000000000) : ∃ l m, laws_markWordS.f k a m0 = some (m, l) ∧ 0 ≤ m := by
  obtain ⟨r, g1, h⟩ := loop_inv2 (fun k (s : Ws × Int × Int) => laws_markWordS.l0 k s.1 s.2.1 s.2.2) a.length 1048577
    (fun i s => s.2.2 = (i : Int) ∧ 0 ≤ s.2.1 ∧ s.2.1 ≤ m0 + 1048576 * (i : Int) ∧ s.1.length = a.length ∧ (∀ j, i ≤ j → s.1[j]? = a[j]?))
    (fun r => 0 ≤ r.1)
    (fun k i s hil hk ⟨h1, h2, h3, h4, h5⟩ => by
      obtain ⟨acc, m, x⟩ := s
      simp only at h1 h2 h3 h4 h5
      subst h1
      have hg : acc.getD (i : Int).toNat [] = a[i] := by
        rw [Int.toNat_natCast, List.getD_eq_getElem?_getD, h5 i (Nat.le_refl _), List.getElem?_eq_getElem hil]
        rfl
      have hai := hi _ (List.getElem_mem hil)
      obtain ⟨y, hm, hyl⟩ := markWord_from k a[i] m hai (by omega) h2 (by omega)
      refine .inl ⟨(acc.set i y, m + (a[i].length : Int), ((i + 1 : Nat) : Int)), ⟨rfl, by simp only; omega, by simp only; omega, by simpa using h4, fun j hj => ?_⟩, ?_⟩
      · simp only
        rw [List.getElem?_set_ne (by omega)]
        exact h5 j (by omega)
      · simp only [laws_markWordS.l0]
        rw [if_pos (by omega), if_pos (by omega), hg, hm, w64 (by omega) (by omega)]
        simp only [Option.bind_some, Int.toNat_natCast]
        rw [show ((i + 1 : Nat) : Int) = (i : Int) + 1 by omega])
    (fun k s hk ⟨h1, h2, h3, h4, h5⟩ => by
      obtain ⟨acc, m, x⟩ := s
      simp only at h1 h2 h3 h4 h5
      subst h1
      refine ⟨(m, acc), h2, ?_⟩
      simp only [laws_markWordS.l0]
      rw [if_neg (by omega)]) k (a, m0, 0) ⟨rfl, h0, by simp, rfl, fun _ _ => rfl⟩ (by omega)
  obtain ⟨m, l⟩ := r
  exact ⟨l, m, h, g1⟩
theorem szCode_cases {k : Nat} (s : List S67) (ws : Ws) (hs : s.length ≤ 9223372036854775807) (hw : ws.length ≤ 9223372036854775807) (hi : ∀ x ∈ ws, x.length ≤ 9223372036854775807) (hk : 1100000 < k) : ∃ r, laws_szCode.f k s ws 1048576 = some r ∧ (r < 0 ∨ (0 ≤ r ∧ r ≤ 1048576 ∧ s.length ≤ 1048576 ∧ ws.length ≤ 1048576 ∧ ∀ x ∈ ws, x.length ≤ 1048576)) := by
  unfold laws_szCode.f laws_szFlagS.f
  rw [w64 (by omega) (by omega)]
  by_cases h : (1048576 : Int) - (s.length : Int) < 0
  · rw [if_pos h]
    exact ⟨-1, rfl, .inl (by omega)⟩
  · rw [if_neg h]
    simp only [Option.bind_some]
    rw [if_neg h]
    obtain ⟨n, hn, hc⟩ := szWordS_ok (k := k) (l := ws) (a0 := 1048576 - (s.length : Int)) (by omega) (by omega) hw hi hk
    rw [hn]
    simp only [Option.bind_some]
    rcases hc with hc | ⟨h1, h2, h3, h4⟩
    · rw [if_pos hc]
      exact ⟨-1, rfl, .inl (by omega)⟩
    · rw [if_neg h1]
      exact ⟨n, rfl, .inr ⟨by omega, h2, by omega, h3, h4⟩⟩
theorem toFlagS_eq (s : List S67) (h : s.length ≤ 1048576) : laws_toFlagS.f s = some (s.map laws_toFlagS.cv) := by
  unfold laws_toFlagS.f
  rw [if_pos (by omega)]
theorem toCode_eq {k : Nat} {s : List S67} {ws : Ws} (hs : s.length ≤ 1048576) (hw : ws.length ≤ 1048576) (hi : ∀ x ∈ ws, x.length ≤ 1048576) (hk : 2200000 < k) : laws_toCode.f k s ws = some (s.map laws_toFlagS.cv, ws) := by
  unfold laws_toCode.f
  rw [toFlagS_eq s hs, toWordS_eq hw hi hk]
  rfl
theorem eqCode_self {k : Nat} {fs : List S68} {ws : Ws} (hw : ws.length ≤ 1048576) (hi : ∀ x ∈ ws, x.length ≤ 1048576) (hk : 2200000 < k) : laws_eqCode.f k fs ws fs ws = some true := by
  unfold laws_eqCode.f laws_eqFlagS.f
  rw [decide_eq_true rfl, eqWordS_self hw hi hk]
  rfl
theorem markCode_pos {k : Nat} {fs : List S68} {ws : Ws} (hf : fs.length ≤ 1048576) (hw : ws.length ≤ 1048576) (hi : ∀ x ∈ ws, x.length ≤ 1048576) (hk : 2200000 < k) : ∃ m a b, laws_markCode.f k fs ws 1 = some (m, a, b) ∧ 0 ≤ m := by
  unfold laws_markCode.f laws_markFlagS.f
  rw [if_pos (by omega)]
  simp only [Option.bind_some]
  obtain ⟨l, m, h, h0⟩ := markWordS_from (k := k) (a := ws) (m0 := 1 + ((24 * fs.length : Nat) : Int)) hw hi hk (by omega) (by omega)
  rw [h]
  exact ⟨m, _, l, rfl, h0⟩
theorem eqSightS_self (a : List S61) : laws_eqSightS.f a a = some true := by
  unfold laws_eqSightS.f
  rw [decide_eq_true rfl]
theorem markSightS_held (a : List S61) (m0 : Int) (h0 : 0 ≤ m0) (h1 : m0 ≤ 100000000) (hl : a.length ≤ 1048576) : ∃ l m, laws_markSightS.f a m0 = some (m, l) ∧ laws_heldSightS.f l m0 = some m ∧ 0 ≤ m := by
  unfold laws_markSightS.f laws_heldSightS.f
  rw [if_pos (by omega)]
  have hlen := laws_markSightS.to_len m0 (Nat.le_refl a.length)
  refine ⟨_, _, rfl, ?_, by omega⟩
  rw [if_pos (by omega), hlen]
  have hall : (List.range a.length).all (laws_heldSightS.all m0 (laws_markSightS.to m0 a a.length)) = true := by
    rw [List.all_eq_true]
    intro i hi
    have hi := List.mem_range.1 hi
    unfold laws_heldSightS.all
    rw [List.all_eq_true]
    intro j hj
    have hj := List.mem_range.1 hj
    unfold laws_heldSightS.ok
    refine decide_eq_true ?_
    have e : rd_T61 (laws_markSightS.to m0 a a.length) (i : Int) = laws_markSightS.one m0 i := by
      unfold rd_T61
      rw [Int.toNat_natCast, List.getD_eq_getElem?_getD]
      unfold laws_markSightS.to
      rw [List.getElem?_append_left (by rw [List.length_map, List.length_range]; exact hi), List.getElem?_map, List.getElem?_range hi]
      rfl
    rw [e]
    unfold laws_markSightS.one
    rw [arrL61_S _ (by rw [List.length_map, List.length_range]), List.getD_eq_getElem?_getD, List.getElem?_map, List.getElem?_range hj]
    rfl
  rw [if_pos hall]
end Go.Proofs.Ytgfknljhogfeaaa.G.Pure
end

section
namespace Go.Proofs.Ytgfknljhogfeaaa.G.Pure
open Go.RowKit Go.Proofs.Ytgfknljhogfeaaa.G Go.Proofs.YtgfknljhogfeaaaW.PrintWords Go.Proofs.YtgfknljhogfeaaaW.PrintLast Go.Proofs.YtgfknljhogfeaaaW.PrintMore
set_option linter.unusedVariables false
set_option linter.unusedSimpArgs false
def okS (ws : Ws) (x : List Int) : Bool := (x.all (fun c => decide (c < 37)) && (decide (1 ≤ x.length) && decide (x.length ≤ 8))) && decide (x.length = (ws.getD 0 []).length)
def okC (fs : List S68) (ws : Ws) : Bool := decide (1 ≤ fs.length) && decide (fs.length ≤ 40) && decide (ws.length ≤ 60) && ws.all (okS ws) && (fs.all spec_l05Ok.flag && ws.all (spec_l05Ok.word fs.length))
theorem specWord_eq (k : Nat) (x : List Int) (hl : x.length ≤ 1048576) (hk : x.length < k) : spec_l05Word.f k x = some (x.all (fun c => decide (c < 37)) && (decide (1 ≤ x.length) && decide (x.length ≤ 8))) := by
  unfold spec_l05Word.f
  obtain ⟨r, hr, h⟩ := loop_inv (fun k (s : Int) => spec_l05Word.l0 k x s) x.length (fun i s => s = (i : Int) ∧ ∀ j (h : j < x.length), j < i → x[j] < 37) (fun r => r = (x.all (fun c => decide (c < 37)) && (decide (1 ≤ x.length) && decide (x.length ≤ 8))))
    (fun k i s hi ⟨h1, h2⟩ => by
      subst h1
      simp only [spec_l05Word.l0]
      rw [if_pos (by omega), if_pos (by omega), rd_nat hi]
      by_cases hc : x[i] ≥ 37
      · rw [if_pos hc]
        refine .inr ⟨false, ?_, rfl⟩
        have : x.all (fun c => decide (c < 37)) = false := by
          rw [List.all_eq_false]
          exact ⟨x[i], List.getElem_mem hi, by simp; omega⟩
        rw [this]
        rfl
      · rw [if_neg hc, w64 (by omega) (by omega)]
        refine .inl ⟨((i + 1 : Nat) : Int), ⟨rfl, fun j hj hji => ?_⟩, rfl⟩
        rcases Nat.lt_succ_iff_lt_or_eq.1 hji with e | e
        · exact h2 j hj e
        · subst e
          omega)
    (fun k s ⟨h1, h2⟩ => by
      subst h1
      have hall : x.all (fun c => decide (c < 37)) = true := by
        rw [List.all_eq_true]
        intro c hc
        obtain ⟨j, hj, rfl⟩ := List.mem_iff_getElem.1 hc
        exact decide_eq_true (h2 j hj hj)
      refine ⟨_, rfl, ?_⟩
      simp only [spec_l05Word.l0, spec_l00In.f]
      rw [if_neg (by omega), hall, Bool.true_and]
      by_cases h1 : (x.length : Int) ≥ 1
      · rw [if_pos h1, decide_eq_true (show 1 ≤ x.length by omega), Bool.true_and]
        simp only [Option.bind_some, Option.some.injEq]
        exact decide_eq_decide.2 (by omega)
      · rw [if_neg h1, decide_eq_false (show ¬ 1 ≤ x.length by omega), Bool.false_and]
        rfl) k 0 ⟨rfl, fun j _ h => absurd h (Nat.not_lt_zero _)⟩ hk
  subst hr
  exact h
theorem specWords_eq {k : Nat} {ws : Ws} (hl : ws.length ≤ 1048576) (hi : ∀ x ∈ ws, x.length ≤ 1048576) (hk : 2200000 < k) : spec_l05Words.f k ws = some (ws.all (okS ws)) := by
  unfold spec_l05Words.f
  obtain ⟨r, hr, h⟩ := loop_inv2 (fun k (s : Int) => spec_l05Words.l0 k ws s) ws.length 1048577 (fun i s => s = (i : Int) ∧ ∀ j (h : j < ws.length), j < i → okS ws ws[j] = true) (fun r => r = ws.all (okS ws))
    (fun k i s hil hk ⟨h1, h2⟩ => by
      subst h1
      have hx := hi _ (List.getElem_mem hil)
      have hno : okS ws ws[i] = false → ws.all (okS ws) = false := fun h => by
        rw [List.all_eq_false]
        exact ⟨ws[i], List.getElem_mem hil, by rw [h]; decide⟩
      have h0 : rd_L2 ws 0 = ws.getD 0 [] := rfl
      simp only [spec_l05Words.l0]
      rw [if_pos (by omega), if_pos (by omega), rdX hil, specWord_eq k _ hx (by omega)]
      simp only [Option.bind_some]
      by_cases hc : (ws[i].all (fun c => decide (c < 37)) && (decide (1 ≤ ws[i].length) && decide (ws[i].length ≤ 8))) = true
      · rw [if_pos hc, if_pos (by omega)]
        by_cases he : (ws[i].length : Int) = ((rd_L2 ws 0).length : Int)
        · rw [if_pos he, w64 (by omega) (by omega)]
          refine .inl ⟨((i + 1 : Nat) : Int), ⟨rfl, fun j hj hji => ?_⟩, rfl⟩
          rcases Nat.lt_succ_iff_lt_or_eq.1 hji with e | e
          · exact h2 j hj e
          · subst e
            unfold okS
            rw [hc, Bool.true_and]
            rw [h0] at he
            exact decide_eq_true (by omega)
        · rw [if_neg he]
          refine .inr ⟨false, (hno ?_).symm, rfl⟩
          unfold okS
          rw [h0] at he
          rw [decide_eq_false (show ¬ ws[i].length = (ws.getD 0 []).length by omega), Bool.and_false]
      · rw [if_neg hc]
        refine .inr ⟨false, (hno ?_).symm, rfl⟩
        unfold okS
        rw [Bool.eq_false_iff.2 hc, Bool.false_and])
    (fun k s hk ⟨h1, h2⟩ => by
      subst h1
      refine ⟨true, ?_, ?_⟩
      · symm
        rw [List.all_eq_true]
        intro x hx
        obtain ⟨j, hj, rfl⟩ := List.mem_iff_getElem.1 hx
        exact h2 j hj hj
      · simp only [spec_l05Words.l0]
        rw [if_neg (by omega)]) k 0 ⟨rfl, fun j _ h => absurd h (Nat.not_lt_zero _)⟩ (by omega)
  subst hr
  exact h
theorem specOk_eq {k : Nat} {fs : List S68} {ws : Ws} (hl : ws.length ≤ 1048576) (hi : ∀ x ∈ ws, x.length ≤ 1048576) (hk : 2200000 < k) : spec_l05Ok.f k fs ws = some (okC fs ws) := by
  unfold spec_l05Ok.f spec_l00In.f okC
  by_cases h1 : (fs.length : Int) ≥ 1
  · rw [if_pos h1, decide_eq_true (show 1 ≤ fs.length by omega), Bool.true_and]
    simp only [Option.bind_some]
    by_cases h2 : fs.length ≤ 40
    · rw [decide_eq_true h2, Bool.true_and, if_pos (decide_eq_true (by omega))]
      by_cases h3 : (ws.length : Int) > 60
      · rw [if_pos h3, decide_eq_false (show ¬ ws.length ≤ 60 by omega), Bool.false_and, Bool.false_and]
      · rw [if_neg h3, decide_eq_true (show ws.length ≤ 60 by omega), Bool.true_and, specWords_eq hl hi hk]
        simp only [Option.bind_some]
        cases ws.all (okS ws)
        · rfl
        · rw [if_pos rfl, Bool.true_and]
    · rw [decide_eq_false h2, if_neg (by simp; omega)]
      rfl
  · rw [if_neg h1, decide_eq_false (show ¬ 1 ≤ fs.length by omega)]
    rfl
def okI (n : Int) (ws : Ws) (x : List Int) : Bool := ((decide (1 ≤ x.length) && decide (x.length ≤ 8)) && x.all (fun c => !decide (wrap64 c ≥ mn n 37))) && decide (x.length = (ws.getD 0 []).length)
theorem isWord_eq (x : List Int) (n : Int) : impl_Word_isWord.f x n = some ((decide (1 ≤ x.length) && decide (x.length ≤ 8)) && x.all (fun c => !decide (wrap64 c ≥ mn n 37))) := by
  have e : slices_ContainsFunc_Word_uint8__impl_Word_isWord_1.f x n = some (x.any fun c => decide (wrap64 c ≥ mn n 37)) := anyO_eq fun c _ => rfl
  unfold impl_Word_isWord.f impl_size_uint8.f impl_within.f
  simp only [Option.bind_some]
  by_cases h1 : (1 : Int) ≤ (x.length : Int)
  · rw [if_pos h1, decide_eq_true (show 1 ≤ x.length by omega), Bool.true_and]
    simp only [Option.bind_some]
    by_cases h2 : x.length ≤ 8
    · rw [if_pos (decide_eq_true (by omega)), e, decide_eq_true h2, Bool.true_and]
      simp only [Option.bind_some, Option.some.injEq]
      rw [← List.not_any_eq_all_not]
    · rw [if_neg (by simp; omega), decide_eq_false h2, Bool.false_and]
  · rw [if_neg h1, decide_eq_false (show ¬ 1 ≤ x.length by omega)]
    rfl
theorem areWords_eq (ws : Ws) (n : Int) : impl_areWords.f ws n = some (ws.all (okI n ws)) := by
  have e : slices_ContainsFunc_Word_Word__impl_areWords_1.f ws n ws = some (ws.any fun x => !okI n ws x) := anyO_eq fun x hx => by
    have hp : 0 < (ws.length : Int) := by
      have := List.length_pos_of_mem hx
      omega
    unfold impl_areWords_1.f
    rw [isWord_eq]
    simp only [Option.bind_some]
    unfold okI
    cases ((decide (1 ≤ x.length) && decide (x.length ≤ 8)) && x.all (fun c => !decide (wrap64 c ≥ mn n 37)))
    · rfl
    · rw [if_pos rfl, if_pos hp, Bool.true_and]
      have h0 : rd_L2 ws 0 = ws.getD 0 [] := rfl
      rw [h0]
      generalize (ws.getD 0 []).length = m
      congr 1
      by_cases he : x.length = m
      · rw [he]; simp
      · rw [decide_eq_false he, bne_iff_ne.2 (show ¬ (x.length : Int) = (m : Int) by omega)]; rfl
  unfold impl_areWords.f
  rw [e]
  simp only [Option.bind_some, Option.some.injEq]
  rw [List.not_any_eq_all_not]
  simp
theorem implOk_eq {fs : List S68} {ws : Ws} (hw : ∀ x ∈ ws, ∀ c ∈ x, 0 ≤ c ∧ c ≤ 255) : impl_ValidCode.f fs ws = some (okC fs ws) := by
  have e1 : slices_ContainsFunc_Flag_Flag__impl_setCode_1.f fs = some (fs.any fun x => !spec_l05Ok.flag x) := anyO_eq fun x _ => by
    show some ((arrL68 x).any fun c => decide (c ≥ 6)) = _
    unfold spec_l05Ok.flag
    rw [List.not_all_eq_any_not]
    congr 2
    funext c
    by_cases h : c ≤ 5
    · rw [decide_eq_true h, decide_eq_false (by omega)]; rfl
    · rw [decide_eq_false h, decide_eq_true (by omega)]; rfl
  have e2 : ∀ n : Nat, ws.all (okI (n : Int) ws) = (ws.all (okS ws) && ws.all (spec_l05Ok.word n)) := fun n => by
    rw [Bool.eq_iff_iff]
    simp only [Bool.and_eq_true, List.all_eq_true, okI, okS, spec_l05Ok.word, decide_eq_true_eq, Bool.not_eq_true', decide_eq_false_iff_not]
    constructor
    · intro h
      refine ⟨fun x hx => ⟨⟨fun c hc => ?_, (h x hx).1.1⟩, (h x hx).2⟩, fun x hx c hc => ?_⟩
      · have h1 := (h x hx).1.2 c hc
        have h2 := hw x hx c hc
        rw [w64 (by omega) (by omega)] at h1
        unfold mn at h1
        split at h1 <;> omega
      · have h1 := (h x hx).1.2 c hc
        have h2 := hw x hx c hc
        rw [w64 (by omega) (by omega)] at h1 ⊢
        unfold mn at h1
        split at h1 <;> omega
    · rintro ⟨ha, hb⟩ x hx
      refine ⟨⟨(ha x hx).1.2, fun c hc => ?_⟩, (ha x hx).2⟩
      have h1 := (ha x hx).1.1 c hc
      have h2 := hw x hx c hc
      have h3 := hb x hx c hc
      rw [w64 (by omega) (by omega)] at h3 ⊢
      unfold mn
      split <;> omega
  unfold impl_ValidCode.f impl_setCode.f impl_within.f impl_unless.f impl_size_Flag.f okC
  rw [e1]
  simp only [Option.bind_some]
  rw [areWords_eq]
  simp only [Option.bind_some]
  rw [e2]
  have hf : (fs.any fun x => !spec_l05Ok.flag x) = !fs.all spec_l05Ok.flag := by
    rw [List.not_all_eq_any_not]
  rw [hf]
  by_cases h1 : (fs.length : Int) > 0
  · rw [if_pos h1, decide_eq_true (show 1 ≤ fs.length by omega), Bool.true_and]
    cases hfl : fs.all spec_l05Ok.flag
    · simp
    · by_cases h2 : fs.length ≤ 40
      · have h2' : ¬ (fs.length : Int) > 40 := by omega
        rw [decide_eq_true h2, Bool.true_and]
        by_cases h3 : ws.length ≤ 60
        · have h3' : (ws.length : Int) ≤ 60 := by omega
          simp [h2', h3', h3]
        · have h3' : ¬ (ws.length : Int) ≤ 60 := by omega
          simp [h2', h3', h3]
      · have h2' : (fs.length : Int) > 40 := by omega
        rw [decide_eq_false h2]
        simp [h2']
  · rw [if_neg h1, decide_eq_false (show ¬ 1 ≤ fs.length by omega)]
    rfl
end Go.Proofs.Ytgfknljhogfeaaa.G.Pure
end

section
namespace Go.Proofs.Ytgfknljhogfeaaa.G.Pure
open Go.RowKit Go.Proofs.Ytgfknljhogfeaaa.G Go.Proofs.YtgfknljhogfeaaaW.PrintWords Go.Proofs.YtgfknljhogfeaaaW.PrintLast Go.Proofs.YtgfknljhogfeaaaW.PrintMore
set_option linter.unusedVariables false
set_option linter.unusedSimpArgs false
abbrev Fl := S68
abbrev Sg := S61
def seeC (fs : List Fl) (x : List Int) : List Sg := x.map (spec_l05Sights.see fs)
structure ValidC (fs : List Fl) (ws : Ws) : Prop where
  nf : fs.length ≤ 40
  nw : ws.length ≤ 60
  len : ∀ x ∈ ws, 1 ≤ x.length ∧ x.length ≤ 8 ∧ x.length = (ws.getD 0 []).length
  mem : ∀ x ∈ ws, ∀ c ∈ x, 0 ≤ c ∧ c < (fs.length : Int)
  flag : ∀ f ∈ fs, ∀ c ∈ arrL68 f, 0 ≤ c ∧ c < 6
theorem validC {fs : List Fl} {ws : Ws} (h : okC fs ws = true) (hw : ∀ x ∈ ws, ∀ c ∈ x, 0 ≤ c ∧ c ≤ 255) (hf : ∀ f ∈ fs, ∀ c ∈ arrL68 f, 0 ≤ c) : ValidC fs ws := by
  unfold okC at h
  simp only [Bool.and_eq_true, List.all_eq_true, okS, spec_l05Ok.flag, spec_l05Ok.word, decide_eq_true_eq] at h
  obtain ⟨⟨⟨⟨h1, h2⟩, h3⟩, h4⟩, h5, h6⟩ := h
  refine ⟨h2, h3, fun x hx => ⟨(h4 x hx).1.2.1, (h4 x hx).1.2.2, (h4 x hx).2⟩, fun x hx c hc => ?_, fun f hf' c hc => ⟨hf f hf' c hc, ?_⟩⟩
  · have h7 := hw x hx c hc
    have h8 := h6 x hx c hc
    rw [w64 (by omega) (by omega)] at h8
    exact ⟨h7.1, h8⟩
  · have := h5 f hf' c hc
    omega
theorem rdF_mem {fs : List Fl} {c : Int} (h0 : 0 ≤ c) (h1 : c < (fs.length : Int)) : rd_T68 fs c ∈ fs := by
  obtain ⟨j, rfl⟩ : ∃ j : Nat, c = (j : Int) := ⟨c.toNat, by omega⟩
  have hj : j < fs.length := by omega
  unfold rd_T68
  rw [Int.toNat_natCast, List.getD_eq_getElem?_getD, List.getElem?_eq_getElem hj]
  exact List.getElem_mem hj
theorem flag_all {fs : List Fl} {ws : Ws} (hv : ValidC fs ws) {c : Int} (h0 : 0 ≤ c) (h1 : c < (fs.length : Int)) : (arrL68 (rd_T68 fs c)).all (fun d => decide (0 ≤ d) && decide (d < 6)) = true := by
  rw [List.all_eq_true]
  intro d hd
  have := hv.flag _ (rdF_mem h0 h1) d hd
  rw [decide_eq_true this.1, decide_eq_true this.2]
  rfl
theorem blur_at (x : Fl) (h : (arrL68 x).all (fun d => decide (0 ≤ d) && decide (d < 6)) = true) : impl_Flag_blur.f x.f0 x.f1 x.f2 x.f3 x.f4 x.f5 x.f6 x.f7 x.f8 x.f9 x.f10 x.f11 x.f12 x.f13 x.f14 x.f15 x.f16 x.f17 x.f18 x.f19 x.f20 x.f21 x.f22 x.f23 = some (oneB (arrL68 x) 0, oneB (arrL68 x) 1, oneB (arrL68 x) 2, oneB (arrL68 x) 3, oneB (arrL68 x) 4, oneB (arrL68 x) 5) := by
  show (if (arrL68 x).all (fun d => decide (0 ≤ d) && decide (d < 6)) = true then _ else none) = _
  rw [if_pos h]
  rfl
theorem implSights_eq {k : Nat} {fs : List Fl} {ws : Ws} (hv : ValidC fs ws) (ws' : Ws) {x : List Int} (hx : x ∈ ws) (hk : 100 < k) : impl_Code_sights.f k fs ws' x = some (seeC fs x) := by
  have hl := hv.len x hx
  have hm := hv.mem x hx
  unfold impl_Code_sights.f
  obtain ⟨r, hr, h⟩ := loop_inv (fun k (s : List Sg × Int) => impl_Code_sights.l0 k s.1 x (x.length : Int) s.2 fs ws') x.length (fun i s => s.2 = (i : Int) ∧ s.1 = (x.take i).map (spec_l05Sights.see fs)) (fun r => r = seeC fs x)
    (fun k i s hi ⟨h1, h2⟩ => by
      obtain ⟨acc, j⟩ := s
      simp only at h1 h2
      subst h1
      have hc := hm _ (List.getElem_mem hi)
      refine .inl ⟨(acc ++ [spec_l05Sights.see fs x[i]], ((i + 1 : Nat) : Int)), ⟨rfl, ?_⟩, ?_⟩
      · simp only
        rw [List.take_succ_eq_append_getElem hi, List.map_append, h2]
        rfl
      · simp only [impl_Code_sights.l0]
        rw [if_pos (by omega), if_pos (by omega), if_pos (by omega), rd_nat hi, if_pos hc.1, if_pos hc.2, blur_at _ (flag_all hv hc.1 hc.2)]
        simp only [Option.bind_some]
        have hal : acc.length ≤ 8 := by rw [h2, List.length_map, List.length_take]; omega
        rw [if_pos (by omega), w64 (by omega) (by omega)]
        rfl)
    (fun k s ⟨h1, h2⟩ => by
      obtain ⟨acc, j⟩ := s
      simp only at h1 h2
      subst h1
      refine ⟨acc, ?_, ?_⟩
      · rw [h2, List.take_length]
        rfl
      · simp only [impl_Code_sights.l0]
        rw [if_neg (by omega)]) k ([], 0) ⟨rfl, by simp⟩ (by omega)
  subst hr
  exact h
theorem specSights_eq {fs : List Fl} {ws : Ws} (hv : ValidC fs ws) {i : Nat} (hi : i < ws.length) : spec_l05Sights.f fs ws (i : Int) = some (seeC fs ws[i]) := by
  have hx := List.getElem_mem hi
  have hl := hv.len _ hx
  have hm := hv.mem _ hx
  unfold spec_l05Sights.f
  have ha : (ws[i]).all (spec_l05Sights.fits fs) = true := by
    rw [List.all_eq_true]
    intro c hc
    have h := hm c hc
    unfold spec_l05Sights.fits
    rw [decide_eq_true h.1, decide_eq_true h.2, flag_all hv h.1 h.2]
    rfl
  rw [rdX hi, if_pos ⟨by omega, by omega, by omega, ha⟩]
  rfl
theorem seeC_len {fs : List Fl} {ws : Ws} (hv : ValidC fs ws) {x : List Int} (hx : x ∈ ws) : (seeC fs x).length = x.length ∧ (seeC fs x).length ≤ 8 := by
  unfold seeC
  rw [List.length_map]
  exact ⟨rfl, (hv.len x hx).2.1⟩
def resS (fs : List Fl) (ws : Ws) (i : Int) : List Sg × Int := if okC fs ws = true then (if 0 ≤ i ∧ i < (ws.length : Int) then (seeC fs (rd_L2 ws i), 0) else ([], 2)) else ([], 1)
theorem specSightsOf_eq {k : Nat} {fs : List Fl} {ws : Ws} (hl : ws.length ≤ 1048576) (hi : ∀ x ∈ ws, x.length ≤ 1048576) (hw : ∀ x ∈ ws, ∀ c ∈ x, 0 ≤ c ∧ c ≤ 255) (hf : ∀ f ∈ fs, ∀ c ∈ arrL68 f, 0 ≤ c) (a : Int) (hk : 2200000 < k) : spec_SightsOf.f k fs ws a = some (resS fs ws a) := by
  unfold spec_SightsOf.f resS
  rw [specOk_eq hl hi hk]
  simp only [Option.bind_some]
  cases hok : okC fs ws
  · rfl
  · have hv := validC hok hw hf
    rw [if_pos rfl, if_pos rfl, w64 (by omega) (by omega)]
    unfold spec_l00In.f
    by_cases h0 : a ≥ 0
    · rw [if_pos h0]
      simp only [Option.bind_some]
      by_cases h1 : a < (ws.length : Int)
      · rw [if_pos (decide_eq_true (by omega)), if_pos ⟨by omega, h1⟩]
        obtain ⟨j, rfl⟩ : ∃ j : Nat, a = (j : Int) := ⟨a.toNat, by omega⟩
        rw [specSights_eq hv (by omega), rdX (by omega)]
        rfl
      · rw [if_neg (by simp; omega), if_neg (by omega)]
    · rw [if_neg h0, if_neg (show ¬ (0 ≤ a ∧ a < (ws.length : Int)) by omega)]
      rfl
theorem implSightsOf_eq {k : Nat} {fs : List Fl} {ws : Ws} (hl : ws.length ≤ 1048576) (hw : ∀ x ∈ ws, ∀ c ∈ x, 0 ≤ c ∧ c ≤ 255) (hf : ∀ f ∈ fs, ∀ c ∈ arrL68 f, 0 ≤ c) (a : Int) (hk : 100 < k) : impl_SightsOf.f k fs ws a = some (resS fs ws a) := by
  unfold impl_SightsOf.f resS
  rw [implOk_eq hw]
  simp only [Option.bind_some]
  cases hok : okC fs ws
  · rfl
  · have hv := validC hok hw hf
    rw [if_pos rfl, if_pos rfl]
    unfold impl_size_Word.f impl_within.f
    simp only [Option.bind_some]
    rw [w64 (by omega) (by omega)]
    by_cases h0 : 0 ≤ a
    · rw [if_pos h0]
      simp only [Option.bind_some]
      by_cases h1 : a < (ws.length : Int)
      · rw [if_pos (decide_eq_true (by omega)), if_pos h0, if_pos h1, if_pos ⟨h0, h1⟩]
        obtain ⟨j, rfl⟩ : ∃ j : Nat, a = (j : Int) := ⟨a.toNat, by omega⟩
        rw [rdX (by omega), implSights_eq hv ws (List.getElem_mem _) hk]
        rfl
      · rw [if_neg (by simp; omega), if_neg (by omega)]
    · rw [if_neg h0, if_neg (show ¬ (0 ≤ a ∧ a < (ws.length : Int)) by omega)]
      rfl
theorem resS_len {fs : List Fl} {ws : Ws} (hw : ∀ x ∈ ws, ∀ c ∈ x, 0 ≤ c ∧ c ≤ 255) (hf : ∀ f ∈ fs, ∀ c ∈ arrL68 f, 0 ≤ c) (a : Int) : (resS fs ws a).1.length ≤ 8 := by
  unfold resS
  cases hok : okC fs ws
  · simp
  · have hv := validC hok hw hf
    rw [if_pos rfl]
    split
    · rename_i h
      obtain ⟨j, rfl⟩ : ∃ j : Nat, a = (j : Int) := ⟨a.toNat, by omega⟩
      rw [rdX (by omega)]
      exact (seeC_len hv (List.getElem_mem _)).2
    · simp
theorem u8b {n : Int} (h : (Lit.int .u8 n).wf = true) : 0 ≤ n ∧ n ≤ 255 := by
  simp [Lit.wf, IntKind.min, IntKind.max, IntKind.signed, IntKind.bits] at h
  omega
theorem wordsW {ws : Ws} (h : ∀ x ∈ ws, (x.length ≤ 9223372036854775807 ∧ ∀ x_ ∈ x, (Lit.int .u8 x_).wf = true)) : ∀ x ∈ ws, ∀ c ∈ x, 0 ≤ c ∧ c ≤ 255 := fun x hx c hc => u8b ((h x hx).2 c hc)
theorem flagsW {s : List S67} (h : ∀ x ∈ s, (Lit.int .u8 x.f0).wf = true ∧ (Lit.int .u8 x.f1).wf = true ∧ (Lit.int .u8 x.f2).wf = true ∧ (Lit.int .u8 x.f3).wf = true ∧ (Lit.int .u8 x.f4).wf = true ∧ (Lit.int .u8 x.f5).wf = true ∧ (Lit.int .u8 x.f6).wf = true ∧ (Lit.int .u8 x.f7).wf = true ∧ (Lit.int .u8 x.f8).wf = true ∧ (Lit.int .u8 x.f9).wf = true ∧ (Lit.int .u8 x.f10).wf = true ∧ (Lit.int .u8 x.f11).wf = true ∧ (Lit.int .u8 x.f12).wf = true ∧ (Lit.int .u8 x.f13).wf = true ∧ (Lit.int .u8 x.f14).wf = true ∧ (Lit.int .u8 x.f15).wf = true ∧ (Lit.int .u8 x.f16).wf = true ∧ (Lit.int .u8 x.f17).wf = true ∧ (Lit.int .u8 x.f18).wf = true ∧ (Lit.int .u8 x.f19).wf = true ∧ (Lit.int .u8 x.f20).wf = true ∧ (Lit.int .u8 x.f21).wf = true ∧ (Lit.int .u8 x.f22).wf = true ∧ (Lit.int .u8 x.f23).wf = true) : ∀ f ∈ s.map laws_toFlagS.cv, ∀ c ∈ arrL68 f, 0 ≤ c := by
  intro f hf c hc
  obtain ⟨x, hx, rfl⟩ := List.mem_map.1 hf
  rw [show arrL68 (laws_toFlagS.cv x) = arrL67 x from rfl] at hc
  have hq := h x hx
  obtain ⟨q0, q1, q2, q3, q4, q5, q6, q7, q8, q9, q10, q11, q12, q13, q14, q15, q16, q17, q18, q19, q20, q21, q22, q23⟩ := hq
  simp only [arrL67, List.mem_cons, List.not_mem_nil, or_false] at hc
  rcases hc with rfl | rfl | rfl | rfl | rfl | rfl | rfl | rfl | rfl | rfl | rfl | rfl | rfl | rfl | rfl | rfl | rfl | rfl | rfl | rfl | rfl | rfl | rfl | rfl <;> exact (u8b (by assumption)).1
end Go.Proofs.Ytgfknljhogfeaaa.G.Pure
end

section
namespace Go.Proofs.Ytgfknljhogfeaaa.G.Pure
open Go.RowKit Go.Proofs.Ytgfknljhogfeaaa.G Go.Proofs.YtgfknljhogfeaaaW.PrintWords Go.Proofs.YtgfknljhogfeaaaW.PrintLast Go.Proofs.YtgfknljhogfeaaaW.PrintMore
set_option linter.unusedVariables false
set_option linter.unusedSimpArgs false
theorem FnExactSightsOf (l0_0 : List S67) (l0_1 : List (List Int)) (a1 : Int) (h00 : l0_0.length ≤ 9223372036854775807) (h01 : (∀ x ∈ l0_0, (Lit.int .u8 x.f0).wf = true ∧ (Lit.int .u8 x.f1).wf = true ∧ (Lit.int .u8 x.f2).wf = true ∧ (Lit.int .u8 x.f3).wf = true ∧ (Lit.int .u8 x.f4).wf = true ∧ (Lit.int .u8 x.f5).wf = true ∧ (Lit.int .u8 x.f6).wf = true ∧ (Lit.int .u8 x.f7).wf = true ∧ (Lit.int .u8 x.f8).wf = true ∧ (Lit.int .u8 x.f9).wf = true ∧ (Lit.int .u8 x.f10).wf = true ∧ (Lit.int .u8 x.f11).wf = true ∧ (Lit.int .u8 x.f12).wf = true ∧ (Lit.int .u8 x.f13).wf = true ∧ (Lit.int .u8 x.f14).wf = true ∧ (Lit.int .u8 x.f15).wf = true ∧ (Lit.int .u8 x.f16).wf = true ∧ (Lit.int .u8 x.f17).wf = true ∧ (Lit.int .u8 x.f18).wf = true ∧ (Lit.int .u8 x.f19).wf = true ∧ (Lit.int .u8 x.f20).wf = true ∧ (Lit.int .u8 x.f21).wf = true ∧ (Lit.int .u8 x.f22).wf = true ∧ (Lit.int .u8 x.f23).wf = true)) (h10 : l0_1.length ≤ 9223372036854775807) (h11 : (∀ x ∈ l0_1, (x.length ≤ 9223372036854775807 ∧ ∀ x_ ∈ x, (Lit.int .u8 x_).wf = true))) (h20 : (Lit.int .i64 a1).wf = true) : ∃ k, laws_FnExactSightsOf.f k l0_0 l0_1 a1 = some true := by
  obtain ⟨k, hk⟩ : ∃ k, 3000000 < k := ⟨_, Nat.lt_succ_self _⟩
  refine ⟨k + 4, ?_⟩
  unfold laws_FnExactSightsOf.f
  obtain ⟨n, hn, hc⟩ := szCode_cases (k := k + 4) l0_0 l0_1 h00 h10 (fun x hx => (h11 x hx).1) (by omega)
  rw [hn]
  simp only [Option.bind_some]
  rcases hc with hc | ⟨h1, h2, h3, h4, h5⟩
  · rw [if_pos hc]
  · rw [if_neg (by omega)]
    have hw := wordsW h11
    have hf := flagsW h01
    have e1 := fun j => toCode_eq (k := k + j) h3 h4 h5 (by omega)
    have q1 := fun j => eqCode_self (k := k + j) (fs := l0_0.map laws_toFlagS.cv) h4 h5 (by omega)
    have s1 := fun j => specSightsOf_eq (k := k + j) h4 h5 hw hf a1 (by omega)
    have i1 := fun j => implSightsOf_eq (k := k + j) h4 hw hf a1 (by omega)
    obtain ⟨m, x, y, hm, hm0⟩ := markCode_pos (k := k + 3) (fs := l0_0.map laws_toFlagS.cv) (by simpa using h3) h4 h5 (by omega)
    have hlen := resS_len hw hf a1
    obtain ⟨l, m', ha, hb, hm5⟩ := markSightS_held (resS (l0_0.map laws_toFlagS.cv) l0_1 a1).1 1 (by omega) (by omega) (by omega)
    have t1 := eqSightS_self (resS (l0_0.map laws_toFlagS.cv) l0_1 a1).1
    generalize resS (l0_0.map laws_toFlagS.cv) l0_1 a1 = res at *
    generalize l0_0.map laws_toFlagS.cv = fs at *
    simp [laws_FnExactSightsOf.j0, laws_FnExactSightsOf.j1, laws_FnExactSightsOf.j2, e1, q1, s1, i1, t1, hm, ha, hb, Int.not_lt.2 hm0, Int.not_lt.2 hm5]
end Go.Proofs.Ytgfknljhogfeaaa.G.Pure
end
