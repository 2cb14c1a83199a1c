/- The law's functions, their contracts, and the plain lemmas: texts of this claim, laid together. -/
import Derived.Deep.Slices
import Derived.Deep.Fields
import Derived.ChangeSame
import Derived.OpenShut
import Derived.Test.YtgfknljhogfeaaaMFnExactNearestWords0
import Derived.Test.YtgfknljhogfeaaaMFnExactNearestWords1
section
namespace Go.Proofs.Ytgfknljhogfeaaa.G
open Go.RowKit Go.Proofs.YtgfknljhogfeaaaW.PrintWords Go.Proofs.YtgfknljhogfeaaaW.PrintLast Go.Proofs.YtgfknljhogfeaaaW.PrintMore
attribute [local go_sem] max2_int min2_int max_two min_two max_three min_three max_four min_four
set_option linter.unusedVariables false
set_option linter.unusedSimpArgs false
def laws_FnExactNearestWords.j0 : Nat → Bool → List (S67) → List (List Int) → List (S68) → List (List Int) → Option (Bool)
 | 0,_,_,_,_,_ => none
 | k + 1,x52,x102000,x102001,x120000,x120001 => if x52 = true then (some false) else ((laws_toCode.f k x102000 x102001).bind fun bt124 => ((laws_eqCode.f k x120000 x120001 bt124.1 bt124.2).bind fun t130 => (if t130 = true then (some true) else (some false))))
def laws_FnExactNearestWords.f (k : Nat) (l0_0 : List (S67)) (l0_1 : List (List Int)) : Option (Bool) := (laws_szCode.f k l0_0 l0_1 1048576).bind fun t102 => (if t102 < 0 then (some true) else ((laws_toCode.f k l0_0 l0_1).bind fun bt103 => ((spec_NearestWords.f k bt103.1 bt103.2).bind fun bt109 => ((laws_toCode.f k l0_0 l0_1).bind fun bt113 => ((impl_NearestWords.f k bt113.1 bt113.2).bind fun bt120 => (if bt120.1 = bt109.1 then (if bt120.2.1 = bt109.2.1 then (if bt120.2.2.1 = bt109.2.2.1 then (laws_FnExactNearestWords.j0 k (bt120.2.2.2 != bt109.2.2.2) l0_0 l0_1 bt113.1 bt113.2) else (laws_FnExactNearestWords.j0 k true l0_0 l0_1 bt113.1 bt113.2)) else (laws_FnExactNearestWords.j0 k true l0_0 l0_1 bt113.1 bt113.2)) else (laws_FnExactNearestWords.j0 k true l0_0 l0_1 bt113.1 bt113.2)))))))
set_option maxHeartbeats 8000000 in
set_option maxRecDepth 100000 in
theorem laws_FnExactNearestWords.calls (k : Nat) (A0_0 : Option Addr) (c0_0 : Nat) (l0_0 : List (S67)) (A0_1 : Option Addr) (c0_1 : Nat) (l0_1 : List (List Int)) (r : Bool) (w : World) (hr0_0 : Kd.C k67 w A0_0 l0_0.length l0_0) (hc0_0 : l0_0.length ≤ c0_0) (hr0_1 : Kd.C (Kd.slice 5 (Kd.int .u8)) w A0_1 l0_1.length l0_1) (hc0_1 : l0_1.length ≤ c0_1) (h : laws_FnExactNearestWords.f k l0_0 l0_1 = some r) :
  Calls Try.prog 4 #[.agg #[.slice A0_0 l0_0.length c0_0,.slice A0_1 l0_1.length c0_1]] w fun e w' => e = .returned (.bool r) ∧ Below w.heap.size w w' := by
 have hu25 := Try.underlying25;have hu33 := Try.underlying33;have HR0_0 := Aside0.mk hr0_0;have HC0_0 := Aside0.mk hc0_0;clear hr0_0 hc0_0;have HR0_1 := Aside0.mk hr0_1;have HC0_1 := Aside0.mk hc0_1;clear hr0_1 hc0_1;have HB := Aside0.mk (Below.refl w.heap.size w);have H : ((laws_szCode.f k l0_0 l0_1 1048576).bind fun t102 => (if t102 < 0 then (some true) else ((laws_toCode.f k l0_0 l0_1).bind fun bt103 => ((spec_NearestWords.f k bt103.1 bt103.2).bind fun bt109 => ((laws_toCode.f k l0_0 l0_1).bind fun bt113 => ((impl_NearestWords.f k bt113.1 bt113.2).bind fun bt120 => (if bt120.1 = bt109.1 then (if bt120.2.1 = bt109.2.1 then (if bt120.2.2.1 = bt109.2.2.1 then (laws_FnExactNearestWords.j0 k (bt120.2.2.2 != bt109.2.2.2) l0_0 l0_1 bt113.1 bt113.2) else (laws_FnExactNearestWords.j0 k true l0_0 l0_1 bt113.1 bt113.2)) else (laws_FnExactNearestWords.j0 k true l0_0 l0_1 bt113.1 bt113.2)) else (laws_FnExactNearestWords.j0 k true l0_0 l0_1 bt113.1 bt113.2)))))))) = some r := h;clear h;replace H := Option.bind_eq_some_iff.mp H;obtain ⟨t102,A20,H⟩ := H;replace H : (if t102 < 0 then (some true) else ((laws_toCode.f k l0_0 l0_1).bind fun bt103 => ((spec_NearestWords.f k bt103.1 bt103.2).bind fun bt109 => ((laws_toCode.f k l0_0 l0_1).bind fun bt113 => ((impl_NearestWords.f k bt113.1 bt113.2).bind fun bt120 => (if bt120.1 = bt109.1 then (if bt120.2.1 = bt109.2.1 then (if bt120.2.2.1 = bt109.2.2.1 then (laws_FnExactNearestWords.j0 k (bt120.2.2.2 != bt109.2.2.2) l0_0 l0_1 bt113.1 bt113.2) else (laws_FnExactNearestWords.j0 k true l0_0 l0_1 bt113.1 bt113.2)) else (laws_FnExactNearestWords.j0 k true l0_0 l0_1 bt113.1 bt113.2)) else (laws_FnExactNearestWords.j0 k true l0_0 l0_1 bt113.1 bt113.2))))))) = some r := H;have A2 := Aside0.mk A20;clear A20
 by_cases c3 : t102 < 0
 ·rw [if_pos c3] at H;have c3b0 : decide (t102 < 0) = true := decide_eq_true c3;clear c3;obtain rfl := Option.some.inj H
  go_enter Try.func4,Try.ntmps4
  go_wp2_with (first | ((with_reducible refine gate_dst (N := 1) rfl ?_);refine box_event ?hg (N := 1) ?hd (cs := #[.slice A0_0 l0_0.length c0_0,.slice A0_1 l0_1.length c0_1]) (t := 25) ?hr ?_;(case hd => rfl);(case hg => rfl);(case hr => first | (go_simp;done) | (go_simp;rfl));intro gb101 hg w4 hbox hb;have n0_ := Aside0.mk (below_step (by repeat (first | (with_reducible first | exact HB.out | apply below_alloc | apply pw_below_drewN | apply below_drew1) | exact HB.out)) hb);have n1_ := Aside0.mk (hbox);have n2_ := Aside0.mk ((by rw [hg];exact (below_size (by repeat (first | (with_reducible first | exact HB.out | apply below_alloc | apply pw_below_drewN | apply below_drew1) | exact HB.out))) : w.heap.size ≤ gb101));have n3_ := Aside0.mk ((by rw [hg];exact (below_size (by repeat (first | (with_reducible first | exact HB.out | apply below_alloc | apply pw_below_drewN | apply below_drew1) | exact HB.out))) : w.heap.size ≤ gb101));clear HB;have HB := n0_;have BK101 := n1_;have GW101 := n2_;have GE101 := n3_;clear n0_ n1_ n2_ n3_;clear hb hbox hg;have hcz5_0 : w4.cell? ⟨gb101,0,none⟩ = some (.slice A0_0 l0_0.length c0_0) := (blk_cell BK101.out 0).trans rfl;have hcz5_1 : w4.cell? ⟨gb101,1,none⟩ = some (.slice A0_1 l0_1.length c0_1) := (blk_cell BK101.out 1).trans rfl;have hfz5_0 := blk_frozen BK101.out 0;have hfz5_1 := blk_frozen BK101.out 1) | ((with_reducible refine gate_callee (f := 8) rfl ?_);refine goesL_ (some 15) rfl rfl Try.func8 (by kernel_rfl) rfl #[.agg #[.slice A0_0 l0_0.length c0_0,.slice A0_1 l0_1.length c0_1],.int .i64 1048576] rfl (by (try simp only [List.map_toArray,List.map_cons,List.map_nil]);first | done | rfl | (simp only [List.length_drop,List.length_take];rfl)) ?_;(with_reducible refine (laws_szCode.calls k _ _ l0_0 _ _ l0_1 1048576 t102 _ ?side1 ?side2 ?side3 ?side4 A2.out).mono ?_);(case side1 => repeat (first | exact (Kd.C_below HR0_0.out HB.out) | (with_reducible refine Kd.C_alloc ?_ _) | (with_reducible refine Kd.C_drewN ?_ _) | (with_reducible refine Kd.C_drew ?_)));(case side2 => exact HC0_0.out);(case side3 => repeat (first | exact (Kd.C_below HR0_1.out HB.out) | (with_reducible refine Kd.C_alloc ?_ _) | (with_reducible refine Kd.C_drewN ?_ _) | (with_reducible refine Kd.C_drew ?_)));(case side4 => exact HC0_1.out);rintro e w6 ⟨rfl,hb⟩;refine ⟨_,rfl,?_⟩;have n0_ := Aside0.mk (blk_below (g := gb101) (o := .cells #[.slice A0_0 l0_0.length c0_0,.slice A0_1 l0_1.length c0_1] 25 (0,0)) (by (with_reducible repeat (first | refine blk_drewN ?_ _ | refine blk_drew ?_ | refine blk_alloc ?_ _));exact BK101.out) hb);have n1_ := Aside0.mk (below_step (by repeat (first | (with_reducible first | exact HB.out | apply below_alloc | apply pw_below_drewN | apply below_drew1 | refine below_set ?_ GE101.out) | exact HB.out)) hb);clear BK101;clear HB;have BK101 := n0_;have HB := n1_;clear n0_ n1_;(try clear hb);(try clear hb2);(try clear hk);(try clear hi)))
  go_ret
  exact ⟨by first | rfl | (simp [errW_none,errW_some,IntKind.wrap_i64,wrap64];done) | (simp [errW_none,errW_some] <;> rfl) | (simp [*,errW_none,errW_some] <;> rfl),by repeat (first | (with_reducible first | exact HB.out | apply below_alloc | apply pw_below_drewN | apply below_drew1 | refine below_set ?_ GE101.out) | exact HB.out)⟩
 ·rw [if_neg c3] at H;have c3b0 : decide (t102 < 0) = false := decide_eq_false c3;clear c3;replace H := Option.bind_eq_some_iff.mp H;obtain ⟨⟨t103,t106⟩,A70,H⟩ := H;replace H : ((spec_NearestWords.f k t103 t106).bind fun bt109 => ((laws_toCode.f k l0_0 l0_1).bind fun bt113 => ((impl_NearestWords.f k bt113.1 bt113.2).bind fun bt120 => (if bt120.1 = bt109.1 then (if bt120.2.1 = bt109.2.1 then (if bt120.2.2.1 = bt109.2.2.1 then (laws_FnExactNearestWords.j0 k (bt120.2.2.2 != bt109.2.2.2) l0_0 l0_1 bt113.1 bt113.2) else (laws_FnExactNearestWords.j0 k true l0_0 l0_1 bt113.1 bt113.2)) else (laws_FnExactNearestWords.j0 k true l0_0 l0_1 bt113.1 bt113.2)) else (laws_FnExactNearestWords.j0 k true l0_0 l0_1 bt113.1 bt113.2))))) = some r := H;have A7 := Aside0.mk A70;clear A70;replace H := Option.bind_eq_some_iff.mp H;obtain ⟨⟨t109,t110,t111,t112⟩,A80,H⟩ := H;replace H : ((laws_toCode.f k l0_0 l0_1).bind fun bt113 => ((impl_NearestWords.f k bt113.1 bt113.2).bind fun bt120 => (if bt120.1 = t109 then (if bt120.2.1 = t110 then (if bt120.2.2.1 = t111 then (laws_FnExactNearestWords.j0 k (bt120.2.2.2 != t112) l0_0 l0_1 bt113.1 bt113.2) else (laws_FnExactNearestWords.j0 k true l0_0 l0_1 bt113.1 bt113.2)) else (laws_FnExactNearestWords.j0 k true l0_0 l0_1 bt113.1 bt113.2)) else (laws_FnExactNearestWords.j0 k true l0_0 l0_1 bt113.1 bt113.2)))) = some r := H;have A8 := Aside0.mk A80;clear A80;replace H := Option.bind_eq_some_iff.mp H;obtain ⟨⟨t113,t116⟩,A90,H⟩ := H;replace H : ((impl_NearestWords.f k t113 t116).bind fun bt120 => (if bt120.1 = t109 then (if bt120.2.1 = t110 then (if bt120.2.2.1 = t111 then (laws_FnExactNearestWords.j0 k (bt120.2.2.2 != t112) l0_0 l0_1 t113 t116) else (laws_FnExactNearestWords.j0 k true l0_0 l0_1 t113 t116)) else (laws_FnExactNearestWords.j0 k true l0_0 l0_1 t113 t116)) else (laws_FnExactNearestWords.j0 k true l0_0 l0_1 t113 t116))) = some r := H;have A9 := Aside0.mk A90;clear A90;replace H := Option.bind_eq_some_iff.mp H;obtain ⟨⟨t120,t121,t122,t123⟩,A100,H⟩ := H;replace H : (if t120 = t109 then (if t121 = t110 then (if t122 = t111 then (laws_FnExactNearestWords.j0 k (t123 != t112) l0_0 l0_1 t113 t116) else (laws_FnExactNearestWords.j0 k true l0_0 l0_1 t113 t116)) else (laws_FnExactNearestWords.j0 k true l0_0 l0_1 t113 t116)) else (laws_FnExactNearestWords.j0 k true l0_0 l0_1 t113 t116)) = some r := H;have A10 := Aside0.mk A100;clear A100;have HC11 := Aside0.mk H;clear H
  go_enter Try.func4,Try.ntmps4
  go_upto_region 8 with (first | ((with_reducible refine gate_dst (N := 1) rfl ?_);refine box_event ?hg (N := 1) ?hd (cs := #[.slice A0_0 l0_0.length c0_0,.slice A0_1 l0_1.length c0_1]) (t := 25) ?hr ?_;(case hd => rfl);(case hg => rfl);(case hr => first | (go_simp;done) | (go_simp;rfl));intro gb101 hg w12 hbox hb;have n0_ := Aside0.mk (below_step (by repeat (first | (with_reducible first | exact HB.out | apply below_alloc | apply pw_below_drewN | apply below_drew1) | exact HB.out)) hb);have n1_ := Aside0.mk (hbox);have n2_ := Aside0.mk ((by rw [hg];exact (below_size (by repeat (first | (with_reducible first | exact HB.out | apply below_alloc | apply pw_below_drewN | apply below_drew1) | exact HB.out))) : w.heap.size ≤ gb101));have n3_ := Aside0.mk ((by rw [hg];exact (below_size (by repeat (first | (with_reducible first | exact HB.out | apply below_alloc | apply pw_below_drewN | apply below_drew1) | exact HB.out))) : w.heap.size ≤ gb101));clear HB;have HB := n0_;have BK101 := n1_;have GW101 := n2_;have GE101 := n3_;clear n0_ n1_ n2_ n3_;clear hb hbox hg;have hcz13_0 : w12.cell? ⟨gb101,0,none⟩ = some (.slice A0_0 l0_0.length c0_0) := (blk_cell BK101.out 0).trans rfl;have hcz13_1 : w12.cell? ⟨gb101,1,none⟩ = some (.slice A0_1 l0_1.length c0_1) := (blk_cell BK101.out 1).trans rfl;have hfz13_0 := blk_frozen BK101.out 0;have hfz13_1 := blk_frozen BK101.out 1) | ((with_reducible refine gate_callee (f := 8) rfl ?_);refine goesL_ (some 15) rfl rfl Try.func8 (by kernel_rfl) rfl #[.agg #[.slice A0_0 l0_0.length c0_0,.slice A0_1 l0_1.length c0_1],.int .i64 1048576] rfl (by (try simp only [List.map_toArray,List.map_cons,List.map_nil]);first | done | rfl | (simp only [List.length_drop,List.length_take];rfl)) ?_;(with_reducible refine (laws_szCode.calls k _ _ l0_0 _ _ l0_1 1048576 t102 _ ?side1 ?side2 ?side3 ?side4 A2.out).mono ?_);(case side1 => repeat (first | exact (Kd.C_below HR0_0.out HB.out) | (with_reducible refine Kd.C_alloc ?_ _) | (with_reducible refine Kd.C_drewN ?_ _) | (with_reducible refine Kd.C_drew ?_)));(case side2 => exact HC0_0.out);(case side3 => repeat (first | exact (Kd.C_below HR0_1.out HB.out) | (with_reducible refine Kd.C_alloc ?_ _) | (with_reducible refine Kd.C_drewN ?_ _) | (with_reducible refine Kd.C_drew ?_)));(case side4 => exact HC0_1.out);rintro e w14 ⟨rfl,hb⟩;refine ⟨_,rfl,?_⟩;have n0_ := Aside0.mk (blk_below (g := gb101) (o := .cells #[.slice A0_0 l0_0.length c0_0,.slice A0_1 l0_1.length c0_1] 25 (0,0)) (by (with_reducible repeat (first | refine blk_drewN ?_ _ | refine blk_drew ?_ | refine blk_alloc ?_ _));exact BK101.out) hb);have n1_ := Aside0.mk (below_step (by repeat (first | (with_reducible first | exact HB.out | apply below_alloc | apply pw_below_drewN | apply below_drew1 | refine below_set ?_ GE101.out) | exact HB.out)) hb);clear BK101;clear HB;have BK101 := n0_;have HB := n1_;clear n0_ n1_;(try clear hb);(try clear hb2);(try clear hk);(try clear hi);have hcz15_0 : w14.cell? ⟨gb101,0,none⟩ = some (.slice A0_0 l0_0.length c0_0) := (blk_cell BK101.out 0).trans rfl;have hcz15_1 : w14.cell? ⟨gb101,1,none⟩ = some (.slice A0_1 l0_1.length c0_1) := (blk_cell BK101.out 1).trans rfl;have hfz15_0 := blk_frozen BK101.out 0;have hfz15_1 := blk_frozen BK101.out 1) | ((with_reducible refine gate_callee (f := 10) rfl ?_);refine goesL_ (some 20) rfl rfl Try.func10 (by kernel_rfl) rfl #[.agg #[.slice A0_0 l0_0.length c0_0,.slice A0_1 l0_1.length c0_1]] rfl (by (try simp only [List.map_toArray,List.map_cons,List.map_nil]);first | done | rfl | (simp only [List.length_drop,List.length_take];rfl)) ?_;(with_reducible refine (laws_toCode.calls k _ _ l0_0 _ _ l0_1 t103 t106 _ ?side1 ?side2 ?side3 ?side4 A7.out).mono ?_);(case side1 => repeat (first | exact (Kd.C_below HR0_0.out HB.out) | (with_reducible refine Kd.C_alloc ?_ _) | (with_reducible refine Kd.C_drewN ?_ _) | (with_reducible refine Kd.C_drew ?_)));(case side2 => exact HC0_0.out);(case side3 => repeat (first | exact (Kd.C_below HR0_1.out HB.out) | (with_reducible refine Kd.C_alloc ?_ _) | (with_reducible refine Kd.C_drewN ?_ _) | (with_reducible refine Kd.C_drew ?_)));(case side4 => exact HC0_1.out);rintro e w16 ⟨v104,v107,rfl,ho0,ho1,hb⟩;refine ⟨_,rfl,?_⟩;have n0_ := Aside0.mk (Kd.R_lower ho0 (below_size (by repeat (first | (with_reducible first | exact HB.out | apply below_alloc | apply pw_below_drewN | apply below_drew1 | refine below_set ?_ GE101.out) | exact HB.out))));have n1_ := Aside0.mk (Kd.S_lower ho1 (below_size (by repeat (first | (with_reducible first | exact HB.out | apply below_alloc | apply pw_below_drewN | apply below_drew1 | refine below_set ?_ GE101.out) | exact HB.out))));have n2_ := Aside0.mk (blk_below (g := gb101) (o := .cells #[.slice A0_0 l0_0.length c0_0,.slice A0_1 l0_1.length c0_1] 25 (0,0)) (by (with_reducible repeat (first | refine blk_drewN ?_ _ | refine blk_drew ?_ | refine blk_alloc ?_ _));exact BK101.out) hb);have n3_ := Aside0.mk (below_step (by repeat (first | (with_reducible first | exact HB.out | apply below_alloc | apply pw_below_drewN | apply below_drew1 | refine below_set ?_ GE101.out) | exact HB.out)) hb);clear BK101;clear HB;have HO105 := n0_;have HO108 := n1_;have BK101 := n2_;have HB := n3_;clear n0_ n1_ n2_ n3_;(try clear hb);(try clear hb2);(try clear hk);(try clear hi);(try clear ho0);(try clear ho1);obtain ⟨Ao17,co17,eo17⟩ := Kd.R_slice HO105.out;subst eo17;obtain ⟨Ao18,co18,eo18⟩ := Kd.S_slice HO108.out;subst eo18) | ((with_reducible refine gate_callee (f := 17) rfl ?_);refine goesL_ (some 21) rfl rfl Try.func17 (by kernel_rfl) rfl #[.agg #[.slice Ao17 t103.length co17,.slice Ao18 t106.length co18]] rfl (by (try simp only [List.map_toArray,List.map_cons,List.map_nil]);first | done | rfl | (simp only [List.length_drop,List.length_take];rfl)) ?_;(with_reducible refine (spec_NearestWords.calls k _ _ t103 _ _ t106 t109 t110 t111 t112 _ ?side1 ?side2 ?side3 ?side4 A8.out).mono ?_);(case side1 => repeat (first | exact (Kd.R_reads' HO105.out).2.2 | (with_reducible refine Kd.C_alloc ?_ _) | (with_reducible refine Kd.C_drewN ?_ _) | (with_reducible refine Kd.C_drew ?_)));(case side2 => exact (Kd.R_reads' HO105.out).2.1);(case side3 => repeat (first | exact (Kd.S_reads' HO108.out).2.2 | (with_reducible refine Kd.C_alloc ?_ _) | (with_reducible refine Kd.C_drewN ?_ _) | (with_reducible refine Kd.C_drew ?_)));(case side4 => exact (Kd.S_reads' HO108.out).2.1);rintro e w19 ⟨rfl,hb⟩;refine ⟨_,rfl,?_⟩;have n0_ := Aside0.mk (Kd.R_below (by (with_reducible repeat (first | apply Kd.R_alloc | apply Kd.R_drewN | apply Kd.R_drew));exact HO105.out) hb);have n1_ := Aside0.mk (Kd.S_below (by (with_reducible repeat (first | apply Kd.S_alloc | apply Kd.S_drewN | apply Kd.S_drew));exact HO108.out) hb);have n2_ := Aside0.mk (blk_below (g := gb101) (o := .cells #[.slice A0_0 l0_0.length c0_0,.slice A0_1 l0_1.length c0_1] 25 (0,0)) (by (with_reducible repeat (first | refine blk_drewN ?_ _ | refine blk_drew ?_ | refine blk_alloc ?_ _));exact BK101.out) hb);have n3_ := Aside0.mk (below_step (by repeat (first | (with_reducible first | exact HB.out | apply below_alloc | apply pw_below_drewN | apply below_drew1 | refine below_set ?_ GE101.out) | exact HB.out)) hb);clear HO105;clear HO108;clear BK101;clear HB;have HO105 := n0_;have HO108 := n1_;have BK101 := n2_;have HB := n3_;clear n0_ n1_ n2_ n3_;(try clear hb);(try clear hb2);(try clear hk);(try clear hi);have hcz20_0 : w19.cell? ⟨gb101,0,none⟩ = some (.slice A0_0 l0_0.length c0_0) := (blk_cell BK101.out 0).trans rfl;have hcz20_1 : w19.cell? ⟨gb101,1,none⟩ = some (.slice A0_1 l0_1.length c0_1) := (blk_cell BK101.out 1).trans rfl;have hfz20_0 := blk_frozen BK101.out 0;have hfz20_1 := blk_frozen BK101.out 1) | ((with_reducible refine gate_callee (f := 10) rfl ?_);refine goesL_ (some 27) rfl rfl Try.func10 (by kernel_rfl) rfl #[.agg #[.slice A0_0 l0_0.length c0_0,.slice A0_1 l0_1.length c0_1]] rfl (by (try simp only [List.map_toArray,List.map_cons,List.map_nil]);first | done | rfl | (simp only [List.length_drop,List.length_take];rfl)) ?_;(with_reducible refine (laws_toCode.calls k _ _ l0_0 _ _ l0_1 t113 t116 _ ?side1 ?side2 ?side3 ?side4 A9.out).mono ?_);(case side1 => repeat (first | exact (Kd.C_below HR0_0.out HB.out) | (with_reducible refine Kd.C_alloc ?_ _) | (with_reducible refine Kd.C_drewN ?_ _) | (with_reducible refine Kd.C_drew ?_)));(case side2 => exact HC0_0.out);(case side3 => repeat (first | exact (Kd.C_below HR0_1.out HB.out) | (with_reducible refine Kd.C_alloc ?_ _) | (with_reducible refine Kd.C_drewN ?_ _) | (with_reducible refine Kd.C_drew ?_)));(case side4 => exact HC0_1.out);rintro e w21 ⟨v114,v117,rfl,ho0,ho1,hb⟩;refine ⟨_,rfl,?_⟩;have n0_ := Aside0.mk (Kd.R_elder' (by (with_reducible repeat (first | apply Kd.R_alloc | apply Kd.R_drewN | apply Kd.R_drew));exact HO105.out) (Kd.R_base ho0) hb);have n1_ := Aside0.mk (Kd.S_elder' (by (with_reducible repeat (first | apply Kd.S_alloc | apply Kd.S_drewN | apply Kd.S_drew));exact HO108.out) (Kd.S_base ho1) hb);have n2_ := Aside0.mk (Kd.R_lower (Kd.R_new' ho0 (Kd.R_lt (by (with_reducible repeat (first | apply Kd.R_alloc | apply Kd.R_drewN | apply Kd.R_drew));exact HO105.out))) (below_size (by repeat (first | (with_reducible first | exact HB.out | apply below_alloc | apply pw_below_drewN | apply below_drew1 | refine below_set ?_ GE101.out) | exact HB.out))));have n3_ := Aside0.mk (Kd.S_lower (Kd.S_new' ho1 (Kd.S_lt (by (with_reducible repeat (first | apply Kd.S_alloc | apply Kd.S_drewN | apply Kd.S_drew));exact HO108.out))) (below_size (by repeat (first | (with_reducible first | exact HB.out | apply below_alloc | apply pw_below_drewN | apply below_drew1 | refine below_set ?_ GE101.out) | exact HB.out))));have n4_ := Aside0.mk (blk_below (g := gb101) (o := .cells #[.slice A0_0 l0_0.length c0_0,.slice A0_1 l0_1.length c0_1] 25 (0,0)) (by (with_reducible repeat (first | refine blk_drewN ?_ _ | refine blk_drew ?_ | refine blk_alloc ?_ _));exact BK101.out) hb);have n5_ := Aside0.mk (below_step (by repeat (first | (with_reducible first | exact HB.out | apply below_alloc | apply pw_below_drewN | apply below_drew1 | refine below_set ?_ GE101.out) | exact HB.out)) hb);clear HO105;clear HO108;clear BK101;clear HB;have HO105 := n0_;have HO108 := n1_;have HO115 := n2_;have HO118 := n3_;have BK101 := n4_;have HB := n5_;clear n0_ n1_ n2_ n3_ n4_ n5_;(try clear hb);(try clear hb2);(try clear hk);(try clear hi);(try clear ho0);(try clear ho1)) | ((with_reducible refine gate_dst (N := 8) rfl ?_);refine box_event ?hg (N := 8) ?hd (cs := #[.slice none 0 0,.slice none 0 0]) (t := 33) ?hr ?_;(case hd => rfl);(case hg => rfl);(case hr => first | (go_simp;done) | (go_simp;rfl));intro gb119 hg w22 hbox hb;have n0_ := Aside0.mk (Kd.R_below (by (with_reducible repeat (first | apply Kd.R_alloc | apply Kd.R_drewN | apply Kd.R_drew));exact HO105.out) hb);have n1_ := Aside0.mk (Kd.S_below (by (with_reducible repeat (first | apply Kd.S_alloc | apply Kd.S_drewN | apply Kd.S_drew));exact HO108.out) hb);have n2_ := Aside0.mk (Kd.R_below (by (with_reducible repeat (first | apply Kd.R_alloc | apply Kd.R_drewN | apply Kd.R_drew));exact HO115.out) hb);have n3_ := Aside0.mk (Kd.S_below (by (with_reducible repeat (first | apply Kd.S_alloc | apply Kd.S_drewN | apply Kd.S_drew));exact HO118.out) hb);have n4_ := Aside0.mk (blk_below (g := gb101) (o := .cells #[.slice A0_0 l0_0.length c0_0,.slice A0_1 l0_1.length c0_1] 25 (0,0)) (by (with_reducible repeat (first | refine blk_drewN ?_ _ | refine blk_drew ?_ | refine blk_alloc ?_ _));exact BK101.out) hb);have n5_ := Aside0.mk (below_step (by repeat (first | (with_reducible first | exact HB.out | apply below_alloc | apply pw_below_drewN | apply below_drew1 | refine below_set ?_ GE101.out) | exact HB.out)) hb);have n6_ := Aside0.mk (hbox);have n7_ := Aside0.mk ((by rw [hg];exact (below_size (by repeat (first | (with_reducible first | exact HB.out | apply below_alloc | apply pw_below_drewN | apply below_drew1 | refine below_set ?_ GE101.out) | exact HB.out))) : w.heap.size ≤ gb119));have n8_ := Aside0.mk ((by rw [hg];exact (below_size (by repeat (first | (with_reducible first | exact HB.out | apply below_alloc | apply pw_below_drewN | apply below_drew1 | refine below_set ?_ GE101.out) | exact HB.out))) : w.heap.size ≤ gb119));have n9_ := Aside0.mk ((by rw [hg];exact Nat.ne_of_lt (blk_lt (g := gb101) (o := .cells #[.slice A0_0 l0_0.length c0_0,.slice A0_1 l0_1.length c0_1] 25 (0,0)) (by (with_reducible repeat (first | refine blk_drewN ?_ _ | refine blk_drew ?_ | refine blk_alloc ?_ _));exact BK101.out)) : gb101 ≠ gb119));have n10_ := Aside0.mk ((by rw [hg];exact Nat.ne_of_gt (blk_lt (g := gb101) (o := .cells #[.slice A0_0 l0_0.length c0_0,.slice A0_1 l0_1.length c0_1] 25 (0,0)) (by (with_reducible repeat (first | refine blk_drewN ?_ _ | refine blk_drew ?_ | refine blk_alloc ?_ _));exact BK101.out)) : gb119 ≠ gb101));clear HO105;clear HO108;clear HO115;clear HO118;clear BK101;clear HB;have HO105 := n0_;have HO108 := n1_;have HO115 := n2_;have HO118 := n3_;have BK101 := n4_;have HB := n5_;have BK119 := n6_;have GW119 := n7_;have GE119 := n8_;have NB101_119 := n9_;have NB119_101 := n10_;clear n0_ n1_ n2_ n3_ n4_ n5_ n6_ n7_ n8_ n9_ n10_;clear hb hbox hg;obtain ⟨Ao23,co23,eo23⟩ := Kd.R_slice HO115.out;subst eo23;have hnb24 := NB119_101.out;have hnc24 := NB101_119.out;have hcz25_0 : w22.cell? ⟨gb119,0,none⟩ = some (.slice none 0 0) := (blk_cell BK119.out 0).trans rfl;have hcz25_1 : w22.cell? ⟨gb119,1,none⟩ = some (.slice none 0 0) := (blk_cell BK119.out 1).trans rfl;have hfz25_0 := blk_frozen BK119.out 0;have hfz25_1 := blk_frozen BK119.out 1;obtain ⟨Ao26,co26,eo26⟩ := Kd.S_slice HO118.out;subst eo26) | ((with_reducible refine gate_callee (f := 18) rfl ?_);refine goesL_ (some 30) rfl rfl Try.func18 (by kernel_rfl) rfl #[.agg #[.slice Ao23 t113.length co23,.slice Ao26 t116.length co26]] rfl (by (try simp only [List.map_toArray,List.map_cons,List.map_nil]);first | done | rfl | (simp only [List.length_drop,List.length_take];rfl)) ?_;(with_reducible refine (impl_NearestWords.calls k _ _ t113 _ _ t116 t120 t121 t122 t123 _ ?side1 ?side2 ?side3 ?side4 A10.out).mono ?_);(case side1 => refine (Kd.R_reads' (e := 68) (base := w.heap.size) (ok := fun k_ => (True ∧ some k_ ≠ (.slice Ao17 t103.length co17 : Value).ownBlock)) (n := t113.length) (c := co23) ?_).2.2;exact (by (with_reducible repeat (first | apply Kd.R_alloc | apply Kd.R_drewN | apply Kd.R_drew));exact (Kd.R_mono (Kd.R_far (p := ⟨gb119,1,none⟩) (Kd.R_far (p := ⟨gb119,0,none⟩) (Kd.R_types HO115.out BK119.out (by decide)) (fun _ hk => hk.2) (.slice Ao23 t113.length co23)) (fun _ hk => hk.2) (.slice Ao26 t116.length co26)) (fun _ h_ => h_.1))));(case side2 => exact (Kd.R_reads' HO115.out).2.1);(case side3 => refine (Kd.S_reads' (e := 79) (base := w.heap.size) (ok := fun k_ => (True ∧ some k_ ≠ (.slice Ao18 t106.length co18 : Value).ownBlock)) (n := t116.length) (c := co26) ?_).2.2;exact (by (with_reducible repeat (first | apply Kd.S_alloc | apply Kd.S_drewN | apply Kd.S_drew));exact (Kd.S_mono (Kd.S_far (p := ⟨gb119,1,none⟩) (Kd.S_far (p := ⟨gb119,0,none⟩) (Kd.S_types HO118.out BK119.out (by decide)) (fun _ hk => hk.2) (.slice Ao23 t113.length co23)) (fun _ hk => hk.2) (.slice Ao26 t116.length co26)) (fun _ h_ => h_.1))));(case side4 => exact (Kd.S_reads' HO118.out).2.1);rintro e w27 ⟨rfl,hb⟩;refine ⟨_,rfl,?_⟩;have n0_ := Aside0.mk (Kd.R_below (by (with_reducible repeat (first | apply Kd.R_alloc | apply Kd.R_drewN | apply Kd.R_drew));exact (Kd.R_mono (Kd.R_far (p := ⟨gb119,1,none⟩) (Kd.R_far (p := ⟨gb119,0,none⟩) (Kd.R_types HO105.out BK119.out (by decide)) (fun _ hk => hk.2) (.slice Ao23 t113.length co23)) (fun _ hk => hk.2) (.slice Ao26 t116.length co26)) (fun _ h_ => h_.1))) hb);have n1_ := Aside0.mk (Kd.S_below (by (with_reducible repeat (first | apply Kd.S_alloc | apply Kd.S_drewN | apply Kd.S_drew));exact (Kd.S_mono (Kd.S_far (p := ⟨gb119,1,none⟩) (Kd.S_far (p := ⟨gb119,0,none⟩) (Kd.S_types HO108.out BK119.out (by decide)) (fun _ hk => hk.2) (.slice Ao23 t113.length co23)) (fun _ hk => hk.2) (.slice Ao26 t116.length co26)) (fun _ h_ => h_.1))) hb);have n2_ := Aside0.mk (Kd.R_below (by (with_reducible repeat (first | apply Kd.R_alloc | apply Kd.R_drewN | apply Kd.R_drew));exact (Kd.R_mono (Kd.R_far (p := ⟨gb119,1,none⟩) (Kd.R_far (p := ⟨gb119,0,none⟩) (Kd.R_types HO115.out BK119.out (by decide)) (fun _ hk => hk.2) (.slice Ao23 t113.length co23)) (fun _ hk => hk.2) (.slice Ao26 t116.length co26)) (fun _ h_ => h_.1))) hb);have n3_ := Aside0.mk (Kd.S_below (by (with_reducible repeat (first | apply Kd.S_alloc | apply Kd.S_drewN | apply Kd.S_drew));exact (Kd.S_mono (Kd.S_far (p := ⟨gb119,1,none⟩) (Kd.S_far (p := ⟨gb119,0,none⟩) (Kd.S_types HO118.out BK119.out (by decide)) (fun _ hk => hk.2) (.slice Ao23 t113.length co23)) (fun _ hk => hk.2) (.slice Ao26 t116.length co26)) (fun _ h_ => h_.1))) hb);have n4_ := Aside0.mk (blk_below (g := gb101) (o := .cells #[.slice A0_0 l0_0.length c0_0,.slice A0_1 l0_1.length c0_1] 25 (0,0)) (by (with_reducible repeat (first | refine blk_drewN ?_ _ | refine blk_drew ?_ | refine blk_alloc ?_ _));refine blk_far ?_ NB101_119.out _;(with_reducible repeat (first | refine blk_drewN ?_ _ | refine blk_drew ?_ | refine blk_alloc ?_ _));refine blk_far ?_ NB101_119.out _;(with_reducible repeat (first | refine blk_drewN ?_ _ | refine blk_drew ?_ | refine blk_alloc ?_ _));exact BK101.out) hb);have n5_ := Aside0.mk (blk_below (g := gb119) (o := .cells #[.slice Ao23 t113.length co23,.slice Ao26 t116.length co26] 33 (0,0)) (by (with_reducible repeat (first | refine blk_drewN ?_ _ | refine blk_drew ?_ | refine blk_alloc ?_ _));refine blk_put (cs := #[.slice Ao23 t113.length co23,.slice none 0 0]) ?_ 1 _ rfl;(with_reducible repeat (first | refine blk_drewN ?_ _ | refine blk_drew ?_ | refine blk_alloc ?_ _));refine blk_put (cs := #[.slice none 0 0,.slice none 0 0]) ?_ 0 _ rfl;(with_reducible repeat (first | refine blk_drewN ?_ _ | refine blk_drew ?_ | refine blk_alloc ?_ _));exact BK119.out) hb);have n6_ := Aside0.mk (below_step (by repeat (first | (with_reducible first | exact HB.out | apply below_alloc | apply pw_below_drewN | apply below_drew1 | refine below_set ?_ GE101.out | refine below_set ?_ GE119.out) | exact HB.out)) hb);clear HO105;clear HO108;clear HO115;clear HO118;clear BK101;clear BK119;clear HB;have HO105 := n0_;have HO108 := n1_;have HO115 := n2_;have HO118 := n3_;have BK101 := n4_;have BK119 := n5_;have HB := n6_;clear n0_ n1_ n2_ n3_ n4_ n5_ n6_;(try clear hb);(try clear hb2);(try clear hk);(try clear hi)))
  (try simp only [Act.put,List.setIfInBounds_toArray,List.set_cons_zero,List.set_cons_succ])
  go_cut [52] (fun v52 wc => ∃ (kq : Nat) (x52_10 : Bool),v52 = .bool x52_10 ∧ Aside0 (laws_FnExactNearestWords.j0 kq x52_10 l0_0 l0_1 t113 t116 = some r) ∧ Aside0 (kq ≤ k) ∧ Aside0 (Kd.R k68 68 wc w.heap.size (fun _ => True) (.slice Ao23 t113.length co23) t113) ∧ Aside0 (Kd.S (Kd.slice 5 (Kd.int .u8)) 79 wc w.heap.size (fun _ => True) (.slice Ao26 t116.length co26) t116) ∧ Aside0 (wc.heap[gb101]? = some (.cells #[(.slice A0_0 l0_0.length c0_0),(.slice A0_1 l0_1.length c0_1)] 25 (0,0))) ∧ Aside0 (wc.heap[gb119]? = some (.cells #[(.slice Ao23 t113.length co23),(.slice Ao26 t116.length co26)] 33 (0,0))) ∧ Aside0 (Below w.heap.size w wc))
  case first =>
   have H := HC11.out;clear HC11
   by_cases c28 : t120 = t109
   ·rw [if_pos c28] at H;have c28b0 : (t120 == t109) = true := beq_iff_eq.mpr c28;have c28b1 : (t120 != t109) = false := bne_eq_false_iff_eq.mpr c28;clear c28;(first | rw [c28b0] | (simp only [i64_w,i32_w];rw [c28b0]) | skip)
    by_cases c29 : t121 = t110
    ·rw [if_pos c29] at H;have c29b0 : (t121 == t110) = true := beq_iff_eq.mpr c29;have c29b1 : (t121 != t110) = false := bne_eq_false_iff_eq.mpr c29;clear c29
     by_cases c30 : t122 = t111
     ·rw [if_pos c30] at H;have c30b0 : (t122 == t111) = true := beq_iff_eq.mpr c30;have c30b1 : (t122 != t111) = false := bne_eq_false_iff_eq.mpr c30;clear c30;have H' := Aside0.mk H;clear H
      go_wp2
      go_meet
      case rel => exact ⟨_,((t123 != t112)),(by first | rfl | (simp only [IntKind.wrap_i64,wrap64];done) | (simp;done) | (simp [*];done)),H',⟨by first | omega | exact Nat.le_refl _⟩,⟨by (with_reducible repeat (first | apply Kd.R_alloc | apply Kd.R_drewN | apply Kd.R_drew));exact Kd.R_mono HO115.out (fun _ hk => trivial)⟩,⟨by (with_reducible repeat (first | apply Kd.S_alloc | apply Kd.S_drewN | apply Kd.S_drew));exact Kd.S_mono HO118.out (fun _ hk => trivial)⟩,⟨by (with_reducible repeat (first | refine blk_drewN ?_ _ | refine blk_drew ?_ | refine blk_alloc ?_ _));exact BK101.out⟩,⟨by (with_reducible repeat (first | refine blk_drewN ?_ _ | refine blk_drew ?_ | refine blk_alloc ?_ _));exact BK119.out⟩,⟨by repeat (first | (with_reducible first | exact HB.out | apply below_alloc | apply pw_below_drewN | apply below_drew1 | refine below_set ?_ GE101.out | refine below_set ?_ GE119.out) | exact HB.out)⟩⟩
     ·rw [if_neg c30] at H;have c30b0 : (t122 == t111) = false := beq_eq_false_iff_ne.mpr c30;have c30b1 : (t122 != t111) = true := bne_iff_ne.mpr c30;have H' := Aside0.mk H;clear H
      go_wp2
      go_meet
      case rel => exact ⟨_,(true),(by first | rfl | (simp only [IntKind.wrap_i64,wrap64];done) | (simp;done) | (simp [*];done)),H',⟨by first | omega | exact Nat.le_refl _⟩,⟨by (with_reducible repeat (first | apply Kd.R_alloc | apply Kd.R_drewN | apply Kd.R_drew));exact Kd.R_mono HO115.out (fun _ hk => trivial)⟩,⟨by (with_reducible repeat (first | apply Kd.S_alloc | apply Kd.S_drewN | apply Kd.S_drew));exact Kd.S_mono HO118.out (fun _ hk => trivial)⟩,⟨by (with_reducible repeat (first | refine blk_drewN ?_ _ | refine blk_drew ?_ | refine blk_alloc ?_ _));exact BK101.out⟩,⟨by (with_reducible repeat (first | refine blk_drewN ?_ _ | refine blk_drew ?_ | refine blk_alloc ?_ _));exact BK119.out⟩,⟨by repeat (first | (with_reducible first | exact HB.out | apply below_alloc | apply pw_below_drewN | apply below_drew1 | refine below_set ?_ GE101.out | refine below_set ?_ GE119.out) | exact HB.out)⟩⟩
    ·rw [if_neg c29] at H;have c29b0 : (t121 == t110) = false := beq_eq_false_iff_ne.mpr c29;have c29b1 : (t121 != t110) = true := bne_iff_ne.mpr c29;have H' := Aside0.mk H;clear H
     go_wp2
     go_meet
     case rel => exact ⟨_,(true),(by first | rfl | (simp only [IntKind.wrap_i64,wrap64];done) | (simp;done) | (simp [*];done)),H',⟨by first | omega | exact Nat.le_refl _⟩,⟨by (with_reducible repeat (first | apply Kd.R_alloc | apply Kd.R_drewN | apply Kd.R_drew));exact Kd.R_mono HO115.out (fun _ hk => trivial)⟩,⟨by (with_reducible repeat (first | apply Kd.S_alloc | apply Kd.S_drewN | apply Kd.S_drew));exact Kd.S_mono HO118.out (fun _ hk => trivial)⟩,⟨by (with_reducible repeat (first | refine blk_drewN ?_ _ | refine blk_drew ?_ | refine blk_alloc ?_ _));exact BK101.out⟩,⟨by (with_reducible repeat (first | refine blk_drewN ?_ _ | refine blk_drew ?_ | refine blk_alloc ?_ _));exact BK119.out⟩,⟨by repeat (first | (with_reducible first | exact HB.out | apply below_alloc | apply pw_below_drewN | apply below_drew1 | refine below_set ?_ GE101.out | refine below_set ?_ GE119.out) | exact HB.out)⟩⟩
   ·rw [if_neg c28] at H;have c28b0 : (t120 == t109) = false := beq_eq_false_iff_ne.mpr c28;have c28b1 : (t120 != t109) = true := bne_iff_ne.mpr c28;(first | rw [c28b0] | (simp only [i64_w,i32_w];rw [c28b0]) | skip);have H' := Aside0.mk H;clear H
    go_wp2
    go_meet
    case rel => exact ⟨_,(true),(by first | rfl | (simp only [IntKind.wrap_i64,wrap64];done) | (simp;done) | (simp [*];done)),H',⟨by first | omega | exact Nat.le_refl _⟩,⟨by (with_reducible repeat (first | apply Kd.R_alloc | apply Kd.R_drewN | apply Kd.R_drew));exact Kd.R_mono HO115.out (fun _ hk => trivial)⟩,⟨by (with_reducible repeat (first | apply Kd.S_alloc | apply Kd.S_drewN | apply Kd.S_drew));exact Kd.S_mono HO118.out (fun _ hk => trivial)⟩,⟨by (with_reducible repeat (first | refine blk_drewN ?_ _ | refine blk_drew ?_ | refine blk_alloc ?_ _));exact BK101.out⟩,⟨by (with_reducible repeat (first | refine blk_drewN ?_ _ | refine blk_drew ?_ | refine blk_alloc ?_ _));exact BK119.out⟩,⟨by repeat (first | (with_reducible first | exact HB.out | apply below_alloc | apply pw_below_drewN | apply below_drew1 | refine below_set ?_ GE101.out | refine below_set ?_ GE119.out) | exact HB.out)⟩⟩
  case rest =>
   clear HC11;(try clear c1);(try clear c2);(try clear p2);(try clear c3);(try clear c3b0);(try clear c4);(try clear c8);(try clear c10);(try clear c17);(try clear c18);(try clear c24);(try clear c28);(try clear c28b0);(try clear c28b1);(try clear c29);(try clear c29b0);(try clear c29b1);(try clear c30);(try clear c30b0);(try clear c30b1);(try clear hcz13_0);(try clear hcz13_1);(try clear hcz15_0);(try clear hcz15_1);(try clear hcz20_0);(try clear hcz20_1);(try clear hcz25_0);(try clear hcz25_1);(try clear hcz5_0);(try clear hcz5_1);(try clear hfz13_0);(try clear hfz13_1);(try clear hfz15_0);(try clear hfz15_1);(try clear hfz20_0);(try clear hfz20_1);(try clear hfz25_0);(try clear hfz25_1);(try clear hfz5_0);(try clear hfz5_1);obtain ⟨kq,x52_10,rfl,HA,HJ10,HO_120000,HO_120001,BK101,BK119,HB⟩ := hcut
   cases kq with
   | zero => exact absurd HA.out (by simp [laws_FnExactNearestWords.j0])
   | succ kj10 =>
    have H := HA.out;clear HA;simp only [laws_FnExactNearestWords.j0] at H
    by_cases c31 : x52_10 = true
    ·subst c31
     have H1 : (some false) = some r := by rw [if_pos rfl] at H;exact H
     clear H;have H := H1;clear H1;obtain rfl := Option.some.inj H
     go_wp2
     go_ret
     exact ⟨by first | rfl | (simp [errW_none,errW_some,IntKind.wrap_i64,wrap64];done) | (simp [errW_none,errW_some] <;> rfl) | (simp [*,errW_none,errW_some] <;> rfl),by repeat (first | (with_reducible first | exact HB.out | apply below_alloc | apply pw_below_drewN | apply below_drew1 | refine below_set ?_ GE101.out | refine below_set ?_ GE119.out) | exact HB.out)⟩
    ·replace c31 := Bool.eq_false_iff.mpr c31;subst c31
     have H1 : ((laws_toCode.f kj10 l0_0 l0_1).bind fun bt124 => ((laws_eqCode.f kj10 t113 t116 bt124.1 bt124.2).bind fun t130 => (if t130 = true then (some true) else (some false)))) = some r := by rw [if_neg (show ¬ (false = true) by decide)] at H;exact H
     clear H;have H := H1;clear H1;replace H := Option.bind_eq_some_iff.mp H;obtain ⟨⟨t124,t127⟩,A320,H⟩ := H;replace H : ((laws_eqCode.f kj10 t113 t116 t124 t127).bind fun t130 => (if t130 = true then (some true) else (some false))) = some r := H;have A32 := Aside0.mk A320;clear A320;replace H := Option.bind_eq_some_iff.mp H;obtain ⟨t130,A330,H⟩ := H;replace H : (if t130 = true then (some true) else (some false)) = some r := H;have A33 := Aside0.mk A330;clear A330
     by_cases c34 : t130 = true
     ·subst c34
      have H1 : (some true) = some r := by rw [if_pos rfl] at H;exact H
      clear H;have H := H1;clear H1;obtain rfl := Option.some.inj H;(try go_wp2);have n0_ := Aside0.mk (Kd.R_drew HO_120000.out);have n1_ := Aside0.mk (Kd.S_drew HO_120001.out);have n2_ := Aside0.mk (blk_drew BK101.out);have n3_ := Aside0.mk (blk_drew BK119.out);have n4_ := Aside0.mk (below_drew1 HB.out);clear HO_120000;clear HO_120001;clear BK101;clear BK119;clear HB;have HO_120000 := n0_;have HO_120001 := n1_;have BK101 := n2_;have BK119 := n3_;have HB := n4_;clear n0_ n1_ n2_ n3_ n4_;refine start_ (n := 5) (S := fun w' => w'.cell? ⟨gb119,0,none⟩ = some (.slice Ao23 t113.length co23) ∧ w'.cell? ⟨gb119,1,none⟩ = some (.slice Ao26 t116.length co26) ∧ w'.cell? ⟨gb101,0,none⟩ = some (.slice A0_0 l0_0.length c0_0) ∧ w'.cell? ⟨gb101,1,none⟩ = some (.slice A0_1 l0_1.length c0_1)) (ds := []) #[false,false,false,false,false] (by kernel_rfl) rfl rfl ⟨(blk_cell BK119.out 0).trans rfl,(blk_cell BK119.out 1).trans rfl,(blk_cell BK101.out 0).trans rfl,(blk_cell BK101.out 1).trans rfl⟩ (fun hHeld => ?_);generalize wc.drew = w35 at HO_120000 HO_120001 BK101 BK119 HB hHeld ⊢;refine take_ (i := 0) (N := some 53) (v := ?_) (a' := ?_) #[true,false,false,false,false] rfl rfl (by kernel_rfl) (fun _ _ _ h => h) (Or.inl ⟨by rfl,?_⟩) hHeld ?_ ?_;rotate_left
      ·rintro w' ⟨s0,s1,s2,s3⟩
       go_simp;with_reducible rfl
      rotate_left
      ·simp only [Act.put,List.setIfInBounds_toArray,List.set_cons_zero,List.set_cons_succ,i64_w,i32_w];rfl
      refine take_ (i := 1) (N := some 54) (v := ?_) (a' := ?_) #[true,true,false,false,false] rfl rfl (by kernel_rfl) (fun _ _ _ h => h) (Or.inl ⟨by rfl,?_⟩) hHeld ?_ ?_;rotate_left
      ·rintro w' ⟨s0,s1,s2,s3⟩
       go_simp;with_reducible rfl
      rotate_left
      ·simp only [Act.put,List.setIfInBounds_toArray,List.set_cons_zero,List.set_cons_succ,i64_w,i32_w];rfl
      refine one_ (i := 2) (N := some 55) #[true,true,true,false,false] rfl rfl (by kernel_rfl) (by decide) (fun K hK => ?_);refine goes_ Try.func10 (by kernel_rfl) rfl #[.agg #[.slice A0_0 l0_0.length c0_0,.slice A0_1 l0_1.length c0_1]] (by rfl) rfl rfl (by (try simp only [List.map_toArray,List.map_cons,List.map_nil]);first | done | rfl | (simp only [List.length_drop,List.length_take];rfl)) ?_
      with_reducible refine (laws_toCode.calls kj10 _ _ l0_0 _ _ l0_1 t124 t127 _ ?side1 ?side2 ?side3 ?side4 A32.out).mono ?_
      (case side1 => repeat (first | exact (Kd.C_below HR0_0.out HB.out) | (with_reducible refine Kd.C_alloc ?_ _) | (with_reducible refine Kd.C_drewN ?_ _) | (with_reducible refine Kd.C_drew ?_)));(case side2 => exact HC0_0.out);(case side3 => repeat (first | exact (Kd.C_below HR0_1.out HB.out) | (with_reducible refine Kd.C_alloc ?_ _) | (with_reducible refine Kd.C_drewN ?_ _) | (with_reducible refine Kd.C_drew ?_)));(case side4 => exact HC0_1.out)
      rintro e w36 ⟨v125,v128,rfl,ho0,ho1,hb⟩
      refine ⟨_,rfl,?_⟩;have n0_ := Aside0.mk (Kd.R_elder' (by (with_reducible repeat (first | apply Kd.R_alloc | apply Kd.R_drewN | apply Kd.R_drew));exact HO_120000.out) (Kd.R_base ho0) hb);have n1_ := Aside0.mk (Kd.S_elder' (by (with_reducible repeat (first | apply Kd.S_alloc | apply Kd.S_drewN | apply Kd.S_drew));exact HO_120001.out) (Kd.S_base ho1) hb);have n2_ := Aside0.mk (Kd.R_lower (Kd.R_new' ho0 (Kd.R_lt (by (with_reducible repeat (first | apply Kd.R_alloc | apply Kd.R_drewN | apply Kd.R_drew));exact HO_120000.out))) (below_size (by repeat (first | (with_reducible first | exact HB.out | apply below_alloc | apply pw_below_drewN | apply below_drew1 | refine below_set ?_ GE101.out | refine below_set ?_ GE119.out) | exact HB.out))));have n3_ := Aside0.mk (Kd.S_lower (Kd.S_new' ho1 (Kd.S_lt (by (with_reducible repeat (first | apply Kd.S_alloc | apply Kd.S_drewN | apply Kd.S_drew));exact HO_120001.out))) (below_size (by repeat (first | (with_reducible first | exact HB.out | apply below_alloc | apply pw_below_drewN | apply below_drew1 | refine below_set ?_ GE101.out | refine below_set ?_ GE119.out) | exact HB.out))));have n4_ := Aside0.mk (blk_below (g := gb101) (o := .cells #[.slice A0_0 l0_0.length c0_0,.slice A0_1 l0_1.length c0_1] 25 (0,0)) (by (with_reducible repeat (first | refine blk_drewN ?_ _ | refine blk_drew ?_ | refine blk_alloc ?_ _));exact BK101.out) hb);have n5_ := Aside0.mk (blk_below (g := gb119) (o := .cells #[.slice Ao23 t113.length co23,.slice Ao26 t116.length co26] 33 (0,0)) (by (with_reducible repeat (first | refine blk_drewN ?_ _ | refine blk_drew ?_ | refine blk_alloc ?_ _));exact BK119.out) hb);have n6_ := Aside0.mk (below_step (by repeat (first | (with_reducible first | exact HB.out | apply below_alloc | apply pw_below_drewN | apply below_drew1 | refine below_set ?_ GE101.out | refine below_set ?_ GE119.out) | exact HB.out)) hb);clear HO_120000;clear HO_120001;clear BK101;clear BK119;clear HB;have HO_120000 := n0_;have HO_120001 := n1_;have HO126 := n2_;have HO129 := n3_;have BK101 := n4_;have BK119 := n5_;have HB := n6_;clear n0_ n1_ n2_ n3_ n4_ n5_ n6_;(try clear hb);(try clear hb2);(try clear hk);(try clear hi);(try clear ho0);(try clear ho1);obtain ⟨Ao37,co37,eo37⟩ := Kd.R_slice HO126.out;(first | subst eo37 | (injection eo37 with f1_ f2_ f3_;have f4_ := f1_.symm;have f5_ := f3_.symm;clear f1_ f2_ f3_;subst f4_;subst f5_));obtain ⟨Ao38,co38,eo38⟩ := Kd.S_slice HO129.out;(first | subst eo38 | (injection eo38 with f1_ f2_ f3_;have f4_ := f1_.symm;have f5_ := f3_.symm;clear f1_ f2_ f3_;subst f4_;subst f5_));refine hK.out _ _ ⟨(blk_cell BK119.out 0).trans rfl,(blk_cell BK119.out 1).trans rfl,(blk_cell BK101.out 0).trans rfl,(blk_cell BK101.out 1).trans rfl⟩ (fun hHeld => ?_);clear hK K;refine norm_ (a' := ?_) ?_ ?_;rotate_left
      ·show Act.put _ (some 55) _ = _
       simp only [Act.put,List.setIfInBounds_toArray,List.set_cons_zero,List.set_cons_succ,i64_w,i32_w];rfl
      refine one_ (i := 3) (N := some 56) #[true,true,true,true,false] rfl rfl (by kernel_rfl) (by decide) (fun K hK => ?_);refine goes_ Try.func13 (by kernel_rfl) rfl #[.agg #[.slice Ao23 t113.length co23,.slice Ao26 t116.length co26],.agg #[.slice Ao37 t124.length co37,.slice Ao38 t127.length co38]] (by rfl) rfl rfl (by (try simp only [List.map_toArray,List.map_cons,List.map_nil]);first | done | rfl | (simp only [List.length_drop,List.length_take];rfl)) ?_
      with_reducible refine (laws_eqCode.calls kj10 _ _ t113 _ _ t116 _ _ t124 _ _ t127 true _ ?side1 ?side2 ?side3 ?side4 ?side5 ?side6 ?side7 ?side8 A33.out).mono ?_
      (case side1 => repeat (first | exact (Kd.R_reads' HO_120000.out).2.2 | (with_reducible refine Kd.C_alloc ?_ _) | (with_reducible refine Kd.C_drewN ?_ _) | (with_reducible refine Kd.C_drew ?_)));(case side2 => exact (Kd.R_reads' HO_120000.out).2.1);(case side3 => repeat (first | exact (Kd.S_reads' HO_120001.out).2.2 | (with_reducible refine Kd.C_alloc ?_ _) | (with_reducible refine Kd.C_drewN ?_ _) | (with_reducible refine Kd.C_drew ?_)));(case side4 => exact (Kd.S_reads' HO_120001.out).2.1);(case side5 => repeat (first | exact (Kd.R_reads' HO126.out).2.2 | (with_reducible refine Kd.C_alloc ?_ _) | (with_reducible refine Kd.C_drewN ?_ _) | (with_reducible refine Kd.C_drew ?_)));(case side6 => exact (Kd.R_reads' HO126.out).2.1);(case side7 => repeat (first | exact (Kd.S_reads' HO129.out).2.2 | (with_reducible refine Kd.C_alloc ?_ _) | (with_reducible refine Kd.C_drewN ?_ _) | (with_reducible refine Kd.C_drew ?_)));(case side8 => exact (Kd.S_reads' HO129.out).2.1)
      rintro e w39 ⟨rfl,hb⟩
      refine ⟨_,rfl,?_⟩;have n0_ := Aside0.mk (Kd.R_below (by (with_reducible repeat (first | apply Kd.R_alloc | apply Kd.R_drewN | apply Kd.R_drew));exact HO_120000.out) hb);have n1_ := Aside0.mk (Kd.S_below (by (with_reducible repeat (first | apply Kd.S_alloc | apply Kd.S_drewN | apply Kd.S_drew));exact HO_120001.out) hb);have n2_ := Aside0.mk (Kd.R_below (by (with_reducible repeat (first | apply Kd.R_alloc | apply Kd.R_drewN | apply Kd.R_drew));exact HO126.out) hb);have n3_ := Aside0.mk (Kd.S_below (by (with_reducible repeat (first | apply Kd.S_alloc | apply Kd.S_drewN | apply Kd.S_drew));exact HO129.out) hb);have n4_ := Aside0.mk (blk_below (g := gb101) (o := .cells #[.slice A0_0 l0_0.length c0_0,.slice A0_1 l0_1.length c0_1] 25 (0,0)) (by (with_reducible repeat (first | refine blk_drewN ?_ _ | refine blk_drew ?_ | refine blk_alloc ?_ _));exact BK101.out) hb);have n5_ := Aside0.mk (blk_below (g := gb119) (o := .cells #[.slice Ao23 t113.length co23,.slice Ao26 t116.length co26] 33 (0,0)) (by (with_reducible repeat (first | refine blk_drewN ?_ _ | refine blk_drew ?_ | refine blk_alloc ?_ _));exact BK119.out) hb);have n6_ := Aside0.mk (below_step (by repeat (first | (with_reducible first | exact HB.out | apply below_alloc | apply pw_below_drewN | apply below_drew1 | refine below_set ?_ GE101.out | refine below_set ?_ GE119.out) | exact HB.out)) hb);clear HO_120000;clear HO_120001;clear HO126;clear HO129;clear BK101;clear BK119;clear HB;have HO_120000 := n0_;have HO_120001 := n1_;have HO126 := n2_;have HO129 := n3_;have BK101 := n4_;have BK119 := n5_;have HB := n6_;clear n0_ n1_ n2_ n3_ n4_ n5_ n6_;(try clear hb);(try clear hb2);(try clear hk);(try clear hi);refine hK.out _ _ ⟨(blk_cell BK119.out 0).trans rfl,(blk_cell BK119.out 1).trans rfl,(blk_cell BK101.out 0).trans rfl,(blk_cell BK101.out 1).trans rfl⟩ (fun hHeld => ?_);clear hK K;refine norm_ (a' := ?_) ?_ ?_;rotate_left
      ·show Act.put _ (some 56) _ = _
       simp only [Act.put,List.setIfInBounds_toArray,List.set_cons_zero,List.set_cons_succ,i64_w,i32_w];rfl
      refine pure_ (i := 4) (N := some 57) (v := ?_) (a' := ?_) #[true,true,true,true,true] rfl rfl (by kernel_rfl) (fun _ _ _ h => h) (Or.inl ⟨by rfl,?_⟩) ?_ ?_;rotate_left
      ·intro w';go_simp;with_reducible rfl
      rotate_left
      ·simp only [Act.put,List.setIfInBounds_toArray,List.set_cons_zero,List.set_cons_succ,i64_w,i32_w];rfl
      refine done_ (by kernel_rfl) ?_;(try go_wp2)
      go_ret
      exact ⟨by first | rfl | (simp [errW_none,errW_some,IntKind.wrap_i64,wrap64];done) | (simp [errW_none,errW_some] <;> rfl) | (simp [*,errW_none,errW_some] <;> rfl),by repeat (first | (with_reducible first | exact HB.out | apply below_alloc | apply pw_below_drewN | apply below_drew1 | refine below_set ?_ GE101.out | refine below_set ?_ GE119.out) | exact HB.out)⟩
     ·replace c34 := Bool.eq_false_iff.mpr c34;subst c34
      have H1 : (some false) = some r := by rw [if_neg (show ¬ (false = true) by decide)] at H;exact H
      clear H;have H := H1;clear H1;obtain rfl := Option.some.inj H;(try go_wp2);have n0_ := Aside0.mk (Kd.R_drew HO_120000.out);have n1_ := Aside0.mk (Kd.S_drew HO_120001.out);have n2_ := Aside0.mk (blk_drew BK101.out);have n3_ := Aside0.mk (blk_drew BK119.out);have n4_ := Aside0.mk (below_drew1 HB.out);clear HO_120000;clear HO_120001;clear BK101;clear BK119;clear HB;have HO_120000 := n0_;have HO_120001 := n1_;have BK101 := n2_;have BK119 := n3_;have HB := n4_;clear n0_ n1_ n2_ n3_ n4_;refine start_ (n := 5) (S := fun w' => w'.cell? ⟨gb119,0,none⟩ = some (.slice Ao23 t113.length co23) ∧ w'.cell? ⟨gb119,1,none⟩ = some (.slice Ao26 t116.length co26) ∧ w'.cell? ⟨gb101,0,none⟩ = some (.slice A0_0 l0_0.length c0_0) ∧ w'.cell? ⟨gb101,1,none⟩ = some (.slice A0_1 l0_1.length c0_1)) (ds := []) #[false,false,false,false,false] (by kernel_rfl) rfl rfl ⟨(blk_cell BK119.out 0).trans rfl,(blk_cell BK119.out 1).trans rfl,(blk_cell BK101.out 0).trans rfl,(blk_cell BK101.out 1).trans rfl⟩ (fun hHeld => ?_);generalize wc.drew = w40 at HO_120000 HO_120001 BK101 BK119 HB hHeld ⊢;refine take_ (i := 0) (N := some 53) (v := ?_) (a' := ?_) #[true,false,false,false,false] rfl rfl (by kernel_rfl) (fun _ _ _ h => h) (Or.inl ⟨by rfl,?_⟩) hHeld ?_ ?_;rotate_left
      ·rintro w' ⟨s0,s1,s2,s3⟩
       go_simp;with_reducible rfl
      rotate_left
      ·simp only [Act.put,List.setIfInBounds_toArray,List.set_cons_zero,List.set_cons_succ,i64_w,i32_w];rfl
      refine take_ (i := 1) (N := some 54) (v := ?_) (a' := ?_) #[true,true,false,false,false] rfl rfl (by kernel_rfl) (fun _ _ _ h => h) (Or.inl ⟨by rfl,?_⟩) hHeld ?_ ?_;rotate_left
      ·rintro w' ⟨s0,s1,s2,s3⟩
       go_simp;with_reducible rfl
      rotate_left
      ·simp only [Act.put,List.setIfInBounds_toArray,List.set_cons_zero,List.set_cons_succ,i64_w,i32_w];rfl
      refine one_ (i := 2) (N := some 55) #[true,true,true,false,false] rfl rfl (by kernel_rfl) (by decide) (fun K hK => ?_);refine goes_ Try.func10 (by kernel_rfl) rfl #[.agg #[.slice A0_0 l0_0.length c0_0,.slice A0_1 l0_1.length c0_1]] (by rfl) rfl rfl (by (try simp only [List.map_toArray,List.map_cons,List.map_nil]);first | done | rfl | (simp only [List.length_drop,List.length_take];rfl)) ?_
      with_reducible refine (laws_toCode.calls kj10 _ _ l0_0 _ _ l0_1 t124 t127 _ ?side1 ?side2 ?side3 ?side4 A32.out).mono ?_
      (case side1 => repeat (first | exact (Kd.C_below HR0_0.out HB.out) | (with_reducible refine Kd.C_alloc ?_ _) | (with_reducible refine Kd.C_drewN ?_ _) | (with_reducible refine Kd.C_drew ?_)));(case side2 => exact HC0_0.out);(case side3 => repeat (first | exact (Kd.C_below HR0_1.out HB.out) | (with_reducible refine Kd.C_alloc ?_ _) | (with_reducible refine Kd.C_drewN ?_ _) | (with_reducible refine Kd.C_drew ?_)));(case side4 => exact HC0_1.out)
      rintro e w41 ⟨v125,v128,rfl,ho0,ho1,hb⟩
      refine ⟨_,rfl,?_⟩;have n0_ := Aside0.mk (Kd.R_elder' (by (with_reducible repeat (first | apply Kd.R_alloc | apply Kd.R_drewN | apply Kd.R_drew));exact HO_120000.out) (Kd.R_base ho0) hb);have n1_ := Aside0.mk (Kd.S_elder' (by (with_reducible repeat (first | apply Kd.S_alloc | apply Kd.S_drewN | apply Kd.S_drew));exact HO_120001.out) (Kd.S_base ho1) hb);have n2_ := Aside0.mk (Kd.R_lower (Kd.R_new' ho0 (Kd.R_lt (by (with_reducible repeat (first | apply Kd.R_alloc | apply Kd.R_drewN | apply Kd.R_drew));exact HO_120000.out))) (below_size (by repeat (first | (with_reducible first | exact HB.out | apply below_alloc | apply pw_below_drewN | apply below_drew1 | refine below_set ?_ GE101.out | refine below_set ?_ GE119.out) | exact HB.out))));have n3_ := Aside0.mk (Kd.S_lower (Kd.S_new' ho1 (Kd.S_lt (by (with_reducible repeat (first | apply Kd.S_alloc | apply Kd.S_drewN | apply Kd.S_drew));exact HO_120001.out))) (below_size (by repeat (first | (with_reducible first | exact HB.out | apply below_alloc | apply pw_below_drewN | apply below_drew1 | refine below_set ?_ GE101.out | refine below_set ?_ GE119.out) | exact HB.out))));have n4_ := Aside0.mk (blk_below (g := gb101) (o := .cells #[.slice A0_0 l0_0.length c0_0,.slice A0_1 l0_1.length c0_1] 25 (0,0)) (by (with_reducible repeat (first | refine blk_drewN ?_ _ | refine blk_drew ?_ | refine blk_alloc ?_ _));exact BK101.out) hb);have n5_ := Aside0.mk (blk_below (g := gb119) (o := .cells #[.slice Ao23 t113.length co23,.slice Ao26 t116.length co26] 33 (0,0)) (by (with_reducible repeat (first | refine blk_drewN ?_ _ | refine blk_drew ?_ | refine blk_alloc ?_ _));exact BK119.out) hb);have n6_ := Aside0.mk (below_step (by repeat (first | (with_reducible first | exact HB.out | apply below_alloc | apply pw_below_drewN | apply below_drew1 | refine below_set ?_ GE101.out | refine below_set ?_ GE119.out) | exact HB.out)) hb);clear HO_120000;clear HO_120001;clear BK101;clear BK119;clear HB;have HO_120000 := n0_;have HO_120001 := n1_;have HO126 := n2_;have HO129 := n3_;have BK101 := n4_;have BK119 := n5_;have HB := n6_;clear n0_ n1_ n2_ n3_ n4_ n5_ n6_;(try clear hb);(try clear hb2);(try clear hk);(try clear hi);(try clear ho0);(try clear ho1);obtain ⟨Ao42,co42,eo42⟩ := Kd.R_slice HO126.out;(first | subst eo42 | (injection eo42 with f1_ f2_ f3_;have f4_ := f1_.symm;have f5_ := f3_.symm;clear f1_ f2_ f3_;subst f4_;subst f5_));obtain ⟨Ao43,co43,eo43⟩ := Kd.S_slice HO129.out;(first | subst eo43 | (injection eo43 with f1_ f2_ f3_;have f4_ := f1_.symm;have f5_ := f3_.symm;clear f1_ f2_ f3_;subst f4_;subst f5_));refine hK.out _ _ ⟨(blk_cell BK119.out 0).trans rfl,(blk_cell BK119.out 1).trans rfl,(blk_cell BK101.out 0).trans rfl,(blk_cell BK101.out 1).trans rfl⟩ (fun hHeld => ?_);clear hK K;refine norm_ (a' := ?_) ?_ ?_;rotate_left
      ·show Act.put _ (some 55) _ = _
       simp only [Act.put,List.setIfInBounds_toArray,List.set_cons_zero,List.set_cons_succ,i64_w,i32_w];rfl
      refine one_ (i := 3) (N := some 56) #[true,true,true,true,false] rfl rfl (by kernel_rfl) (by decide) (fun K hK => ?_);refine goes_ Try.func13 (by kernel_rfl) rfl #[.agg #[.slice Ao23 t113.length co23,.slice Ao26 t116.length co26],.agg #[.slice Ao42 t124.length co42,.slice Ao43 t127.length co43]] (by rfl) rfl rfl (by (try simp only [List.map_toArray,List.map_cons,List.map_nil]);first | done | rfl | (simp only [List.length_drop,List.length_take];rfl)) ?_
      with_reducible refine (laws_eqCode.calls kj10 _ _ t113 _ _ t116 _ _ t124 _ _ t127 false _ ?side1 ?side2 ?side3 ?side4 ?side5 ?side6 ?side7 ?side8 A33.out).mono ?_
      (case side1 => repeat (first | exact (Kd.R_reads' HO_120000.out).2.2 | (with_reducible refine Kd.C_alloc ?_ _) | (with_reducible refine Kd.C_drewN ?_ _) | (with_reducible refine Kd.C_drew ?_)));(case side2 => exact (Kd.R_reads' HO_120000.out).2.1);(case side3 => repeat (first | exact (Kd.S_reads' HO_120001.out).2.2 | (with_reducible refine Kd.C_alloc ?_ _) | (with_reducible refine Kd.C_drewN ?_ _) | (with_reducible refine Kd.C_drew ?_)));(case side4 => exact (Kd.S_reads' HO_120001.out).2.1);(case side5 => repeat (first | exact (Kd.R_reads' HO126.out).2.2 | (with_reducible refine Kd.C_alloc ?_ _) | (with_reducible refine Kd.C_drewN ?_ _) | (with_reducible refine Kd.C_drew ?_)));(case side6 => exact (Kd.R_reads' HO126.out).2.1);(case side7 => repeat (first | exact (Kd.S_reads' HO129.out).2.2 | (with_reducible refine Kd.C_alloc ?_ _) | (with_reducible refine Kd.C_drewN ?_ _) | (with_reducible refine Kd.C_drew ?_)));(case side8 => exact (Kd.S_reads' HO129.out).2.1)
      rintro e w44 ⟨rfl,hb⟩
      refine ⟨_,rfl,?_⟩;have n0_ := Aside0.mk (Kd.R_below (by (with_reducible repeat (first | apply Kd.R_alloc | apply Kd.R_drewN | apply Kd.R_drew));exact HO_120000.out) hb);have n1_ := Aside0.mk (Kd.S_below (by (with_reducible repeat (first | apply Kd.S_alloc | apply Kd.S_drewN | apply Kd.S_drew));exact HO_120001.out) hb);have n2_ := Aside0.mk (Kd.R_below (by (with_reducible repeat (first | apply Kd.R_alloc | apply Kd.R_drewN | apply Kd.R_drew));exact HO126.out) hb);have n3_ := Aside0.mk (Kd.S_below (by (with_reducible repeat (first | apply Kd.S_alloc | apply Kd.S_drewN | apply Kd.S_drew));exact HO129.out) hb);have n4_ := Aside0.mk (blk_below (g := gb101) (o := .cells #[.slice A0_0 l0_0.length c0_0,.slice A0_1 l0_1.length c0_1] 25 (0,0)) (by (with_reducible repeat (first | refine blk_drewN ?_ _ | refine blk_drew ?_ | refine blk_alloc ?_ _));exact BK101.out) hb);have n5_ := Aside0.mk (blk_below (g := gb119) (o := .cells #[.slice Ao23 t113.length co23,.slice Ao26 t116.length co26] 33 (0,0)) (by (with_reducible repeat (first | refine blk_drewN ?_ _ | refine blk_drew ?_ | refine blk_alloc ?_ _));exact BK119.out) hb);have n6_ := Aside0.mk (below_step (by repeat (first | (with_reducible first | exact HB.out | apply below_alloc | apply pw_below_drewN | apply below_drew1 | refine below_set ?_ GE101.out | refine below_set ?_ GE119.out) | exact HB.out)) hb);clear HO_120000;clear HO_120001;clear HO126;clear HO129;clear BK101;clear BK119;clear HB;have HO_120000 := n0_;have HO_120001 := n1_;have HO126 := n2_;have HO129 := n3_;have BK101 := n4_;have BK119 := n5_;have HB := n6_;clear n0_ n1_ n2_ n3_ n4_ n5_ n6_;(try clear hb);(try clear hb2);(try clear hk);(try clear hi);refine hK.out _ _ ⟨(blk_cell BK119.out 0).trans rfl,(blk_cell BK119.out 1).trans rfl,(blk_cell BK101.out 0).trans rfl,(blk_cell BK101.out 1).trans rfl⟩ (fun hHeld => ?_);clear hK K;refine norm_ (a' := ?_) ?_ ?_;rotate_left
      ·show Act.put _ (some 56) _ = _
       simp only [Act.put,List.setIfInBounds_toArray,List.set_cons_zero,List.set_cons_succ,i64_w,i32_w];rfl
      refine pure_ (i := 4) (N := some 57) (v := ?_) (a' := ?_) #[true,true,true,true,true] rfl rfl (by kernel_rfl) (fun _ _ _ h => h) (Or.inl ⟨by rfl,?_⟩) ?_ ?_;rotate_left
      ·intro w';go_simp;with_reducible rfl
      rotate_left
      ·simp only [Act.put,List.setIfInBounds_toArray,List.set_cons_zero,List.set_cons_succ,i64_w,i32_w];rfl
      refine done_ (by kernel_rfl) ?_;(try go_wp2)
      go_ret
      exact ⟨by first | rfl | (simp [errW_none,errW_some,IntKind.wrap_i64,wrap64];done) | (simp [errW_none,errW_some] <;> rfl) | (simp [*,errW_none,errW_some] <;> rfl),by repeat (first | (with_reducible first | exact HB.out | apply below_alloc | apply pw_below_drewN | apply below_drew1 | refine below_set ?_ GE101.out | refine below_set ?_ GE119.out) | exact HB.out)⟩
end Go.Proofs.Ytgfknljhogfeaaa.G
end

section
namespace Go.Proofs.Ytgfknljhogfeaaa.G
open Go.RowKit Go.Proofs.YtgfknljhogfeaaaW.PrintWords Go.Proofs.YtgfknljhogfeaaaW.PrintLast Go.Proofs.YtgfknljhogfeaaaW.PrintMore
attribute [local go_sem] max2_int min2_int max_two min_two max_three min_three max_four min_four
set_option linter.unusedVariables false
set_option linter.unusedSimpArgs false
open Go.ChangeShapes Go.WideShapes Go.Deep in
structure Opens {α : Type} (P : Program) (t : TypeId) (d : Kd α) (Wf : α → Prop) : Prop where
  sz : P.cellsOf t = d.sz
  op : ∀ {H : Type} {enc : TypeId × Value → H} {w : World} {base : Nat} {spare : Nat → Bool} {held : Bool} {fuel : Nat} {cs : List Value} {x : DataW H × List MemPlace}, DataW.trod enc P w base spare held fuel t cs = some x → ∃ a : α, d.K w a cs ∧ Wf a
theorem opens_int {P : Program} {t : TypeId} {k : IntKind} (ht : P.underlying t = some (.int k)) (hC : P.cellsOf t = 1) : Opens P t (Kd.int k) (fun n => (Lit.int k n).wf = true) where
  sz := hC
  op := fun h => by
    obtain ⟨n, rfl, _, hw⟩ := DataW.trod_int ht h
    exact ⟨n, rfl, hw⟩
theorem list_of {α : Type} {Q : Nat → α → Prop} : ∀ n, (∀ i, i < n → ∃ y, Q i y) → ∃ l : List α, l.length = n ∧ ∀ i y, l[i]? = some y → Q i y
  | 0, _ => ⟨[], rfl, fun i y h => by simp at h⟩
  | n + 1, h => by
    obtain ⟨l, hl, hq⟩ := list_of n (fun i hi => h i (by omega))
    obtain ⟨y, hy⟩ := h n (by omega)
    refine ⟨l ++ [y], by simp [hl], fun i z hz => ?_⟩
    rcases Nat.lt_or_ge i l.length with hi | hi
    · rw [List.getElem?_append_left hi] at hz
      exact hq i z hz
    · rw [List.getElem?_append_right hi] at hz
      have : i - l.length = 0 := by
        rcases Nat.eq_zero_or_pos (i - l.length) with h0 | h0
        · exact h0
        · rw [List.getElem?_eq_none (by simp; omega)] at hz
          cases hz
      rw [this] at hz
      have e : y = z := by simpa using hz
      subst e
      have : i = n := by omega
      subst this
      exact hy
theorem opens_slice {α : Type} {P : Program} {t e : TypeId} {d : Kd α} {Wf : α → Prop} (ht : P.underlying t = some (.slice e)) (hC : P.cellsOf t = 1) (he : Opens P e d Wf) : Opens P t (Kd.slice e d) (fun l => l.length ≤ 9223372036854775807 ∧ ∀ x ∈ l, Wf x) where
  sz := hC
  op := fun {H enc w base spare held fuel cs x} h => by
    rcases Go.Deep.open_slice ht h with ⟨rfl, _⟩ | ⟨a, len, cap, m, n, D, Pl, rfl, hb, hl, hm, hmm, _, hi⟩
    · exact ⟨[], ⟨none, 0, rfl, Nat.le_refl _, rfl, by simp, fun h => absurd h (by simp)⟩, by simp, by simp⟩
    · have hlen : len ≤ m := by rw [hmm]; split <;> omega
      obtain ⟨l, hll, hq⟩ := list_of (Q := fun i y => (∃ c, c.length = d.sz ∧ d.K w y c ∧ ∀ j u, c[j]? = some u → w.cell? (a.add (i * d.sz + j)) = some u) ∧ Wf y) len (fun i him => by
        obtain ⟨cs', hc, ht'⟩ := hi i (by omega)
        obtain ⟨y, hK, hW⟩ := he.op ht'
        obtain ⟨_, hcl, hat⟩ := World.cells?_some hc
        refine ⟨y, ⟨cs', d.K_len hK, hK, fun j u hu => ?_⟩, hW⟩
        have hj : j < cs'.length := (List.getElem?_eq_some_iff.1 hu).1
        have h1 := hat j (by rw [he.sz, ← d.K_len hK]; exact hj)
        rw [← he.sz, ← Go.Deep.add_add, h1, hu])
      refine ⟨l, ⟨some a, cap, by rw [hll], by rw [hll]; exact hl, rfl, by rw [hll]; have := hm; unfold maxLen at this; omega, fun _ => ⟨a, rfl, fun j p hj => (hq j p hj).1⟩⟩, by rw [hll]; have := hm; unfold maxLen at this; omega, fun y hy => ?_⟩
      obtain ⟨j, hj, rfl⟩ := List.mem_iff_getElem.1 hy
      exact (hq j _ (List.getElem?_eq_getElem hj)).2
def offs (P : Program) : List TypeId → Nat → Nat
  | [], _ => 0
  | _ :: _, 0 => 0
  | t :: ts, i + 1 => P.cellsOf t + offs P ts i
def OpensF {α : Type} (P : Program) (ts : List TypeId) (d : Kd α) (Wf : α → Prop) : Prop :=
  ∀ {H : Type} {enc : TypeId × Value → H} {w : World} {base : Nat} {spare : Nat → Bool} {held : Bool} {n : Nat} {cs : List Value}, cs.length = d.sz → (∀ i t, ts[i]? = some t → ∃ x, DataW.trod enc P w base spare held n t ((cs.drop (offs P ts i)).take (P.cellsOf t)) = some x) → ∃ a : α, d.K w a cs ∧ Wf a
theorem opensF_one {α : Type} {P : Program} {t : TypeId} {d : Kd α} {Wf : α → Prop} (h : Opens P t d Wf) : OpensF P [t] d Wf := fun {H enc w base spare held n cs} hl hf => by
  obtain ⟨x, hx⟩ := hf 0 t rfl
  simp only [offs, List.drop_zero] at hx
  rw [List.take_of_length_le (by rw [hl, h.sz]; exact Nat.le_refl _)] at hx
  exact h.op hx
theorem opensF_cons {α β : Type} {P : Program} {t : TypeId} {ts : List TypeId} {d : Kd α} {d' : Kd β} {Wf : α → Prop} {Wf' : β → Prop} (h : Opens P t d Wf) (h' : OpensF P ts d' Wf') : OpensF P (t :: ts) (Kd.pair d d') (fun x => Wf x.1 ∧ Wf' x.2) := fun {H enc w base spare held n cs} hl hf => by
  have hl' : cs.length = d.sz + d'.sz := hl
  obtain ⟨x, hx⟩ := hf 0 t rfl
  simp only [offs, List.drop_zero] at hx
  obtain ⟨a, hK, hW⟩ := h.op hx
  obtain ⟨b, hK', hW'⟩ := h' (enc := enc) (w := w) (base := base) (spare := spare) (held := held) (n := n) (cs := cs.drop d.sz) (by rw [List.length_drop, hl']; omega) (fun i t' ht' => by
    obtain ⟨y, hy⟩ := hf (i + 1) t' (by simpa using ht')
    refine ⟨y, ?_⟩
    rw [List.drop_drop]
    simpa only [offs, h.sz] using hy)
  refine ⟨(a, b), ⟨_, _, (List.take_append_drop d.sz cs).symm, ?_, hK'⟩, hW, hW'⟩
  rw [← h.sz]
  exact hK
theorem opens_struct {α β : Type} {P : Program} {t : TypeId} {fs : Array Field} {d : Kd α} {Wf : α → Prop} (f : β → α) (g : α → β) (hfg : ∀ a, f (g a) = a) (ht : P.underlying t = some (.struct fs)) (hC : P.cellsOf t = d.sz)
    (ho : ((List.range fs.size).all fun i => decide ((fs[i]?.map Field.offset) = some (offs P (fs.toList.map Field.type) i))) = true) (h : OpensF P (fs.toList.map Field.type) d Wf) : Opens P t (Kd.iso d f) (fun x => Wf (f x)) where
  sz := hC
  op := fun {H enc w base spare held fuel cs x} hx => by
    obtain ⟨xs, n, _, _, hlen, hxl, hf⟩ := DataW.trod_struct ht hx
    obtain ⟨a, hK, hW⟩ := h (enc := enc) (w := w) (base := base) (spare := spare) (held := held) (n := n) (cs := cs) (by rw [hlen, hC]) (fun i t' ht' => by
      have hi : i < fs.size := by
        have := (List.getElem?_eq_some_iff.1 ht').1
        simpa using this
      have e : fs[i]? = some fs[i] := Array.getElem?_eq_getElem hi
      have et : fs[i].type = t' := by
        rw [List.getElem?_map] at ht'
        have : fs.toList[i]? = some fs[i] := by simp [hi]
        rw [this] at ht'
        simpa using ht'
      have eo := of_decide_eq_true (List.all_eq_true.1 ho i (List.mem_range.2 hi))
      rw [e] at eo
      have eo' : fs[i].offset = offs P (fs.toList.map Field.type) i := by simpa using eo
      have h1 := hf i fs[i] e
      rw [et, eo'] at h1
      exact ⟨_, h1.trans (List.getElem?_eq_getElem (show i < xs.length by omega))⟩)
    exact ⟨g a, by show d.K w (f (g a)) cs; rw [hfg]; exact hK, by show Wf (f (g a)); rw [hfg]; exact hW⟩
theorem offs_rep {P : Program} {e : TypeId} : ∀ (n i : Nat), i ≤ n → offs P (List.replicate n e) i = i * P.cellsOf e
  | 0, i, h => by
    obtain rfl : i = 0 := by omega
    simp [offs]
  | n + 1, 0, _ => by simp [List.replicate_succ, offs]
  | n + 1, i + 1, h => by
    rw [List.replicate_succ]
    show P.cellsOf e + offs P (List.replicate n e) i = _
    rw [offs_rep n i (by omega), Nat.succ_mul, Nat.add_comm]
theorem opens_array {α β : Type} {P : Program} {t e : TypeId} {n : Nat} {d : Kd α} {Wf : α → Prop} (f : β → α) (g : α → β) (hfg : ∀ a, f (g a) = a) (ht : P.underlying t = some (.array n e)) (hC : P.cellsOf t = d.sz)
    (h : OpensF P (List.replicate n e) d Wf) : Opens P t (Kd.iso d f) (fun x => Wf (f x)) where
  sz := hC
  op := fun {H enc w base spare held fuel cs x} hx => by
    obtain ⟨xs, m, _, _, hlen, hxl, hf⟩ := DataW.trod_array ht hx
    obtain ⟨a, hK, hW⟩ := h (enc := enc) (w := w) (base := base) (spare := spare) (held := held) (n := m) (cs := cs) (by rw [hlen, hC]) (fun i t' ht' => by
      have hi : i < n := by
        have := (List.getElem?_eq_some_iff.1 ht').1
        simpa using this
      have et : e = t' := by
        rw [List.getElem?_replicate, if_pos hi] at ht'
        exact Option.some.inj ht'
      subst et
      have h1 := hf i hi
      rw [offs_rep n i (by omega)]
      exact ⟨_, h1.trans (List.getElem?_eq_getElem (show i < xs.length by omega))⟩)
    exact ⟨g a, by show d.K w (f (g a)) cs; rw [hfg]; exact hK, by show Wf (f (g a)); rw [hfg]; exact hW⟩
theorem op5 : Opens Try.prog 5 (Kd.int .u8) (fun x : Int => (Lit.int .u8 x).wf = true) := opens_int (k := .u8) Try.underlying5 (by kernel_rfl)
theorem op67 : Opens Try.prog 67 k67 (fun x : S67 => (Lit.int .u8 x.f0).wf = true ∧ (Lit.int .u8 x.f1).wf = true ∧ (Lit.int .u8 x.f2).wf = true ∧ (Lit.int .u8 x.f3).wf = true ∧ (Lit.int .u8 x.f4).wf = true ∧ (Lit.int .u8 x.f5).wf = true ∧ (Lit.int .u8 x.f6).wf = true ∧ (Lit.int .u8 x.f7).wf = true ∧ (Lit.int .u8 x.f8).wf = true ∧ (Lit.int .u8 x.f9).wf = true ∧ (Lit.int .u8 x.f10).wf = true ∧ (Lit.int .u8 x.f11).wf = true ∧ (Lit.int .u8 x.f12).wf = true ∧ (Lit.int .u8 x.f13).wf = true ∧ (Lit.int .u8 x.f14).wf = true ∧ (Lit.int .u8 x.f15).wf = true ∧ (Lit.int .u8 x.f16).wf = true ∧ (Lit.int .u8 x.f17).wf = true ∧ (Lit.int .u8 x.f18).wf = true ∧ (Lit.int .u8 x.f19).wf = true ∧ (Lit.int .u8 x.f20).wf = true ∧ (Lit.int .u8 x.f21).wf = true ∧ (Lit.int .u8 x.f22).wf = true ∧ (Lit.int .u8 x.f23).wf = true) := opens_array (fun x : S67 => (x.f0, x.f1, x.f2, x.f3, x.f4, x.f5, x.f6, x.f7, x.f8, x.f9, x.f10, x.f11, x.f12, x.f13, x.f14, x.f15, x.f16, x.f17, x.f18, x.f19, x.f20, x.f21, x.f22, x.f23)) (fun a => ⟨a.1, a.2.1, a.2.2.1, a.2.2.2.1, a.2.2.2.2.1, a.2.2.2.2.2.1, a.2.2.2.2.2.2.1, a.2.2.2.2.2.2.2.1, a.2.2.2.2.2.2.2.2.1, a.2.2.2.2.2.2.2.2.2.1, a.2.2.2.2.2.2.2.2.2.2.1, a.2.2.2.2.2.2.2.2.2.2.2.1, a.2.2.2.2.2.2.2.2.2.2.2.2.1, a.2.2.2.2.2.2.2.2.2.2.2.2.2.1, a.2.2.2.2.2.2.2.2.2.2.2.2.2.2.1, a.2.2.2.2.2.2.2.2.2.2.2.2.2.2.2.1, a.2.2.2.2.2.2.2.2.2.2.2.2.2.2.2.2.1, a.2.2.2.2.2.2.2.2.2.2.2.2.2.2.2.2.2.1, a.2.2.2.2.2.2.2.2.2.2.2.2.2.2.2.2.2.2.1, a.2.2.2.2.2.2.2.2.2.2.2.2.2.2.2.2.2.2.2.1, a.2.2.2.2.2.2.2.2.2.2.2.2.2.2.2.2.2.2.2.2.1, a.2.2.2.2.2.2.2.2.2.2.2.2.2.2.2.2.2.2.2.2.2.1, a.2.2.2.2.2.2.2.2.2.2.2.2.2.2.2.2.2.2.2.2.2.2.1, a.2.2.2.2.2.2.2.2.2.2.2.2.2.2.2.2.2.2.2.2.2.2.2⟩) (fun _ => rfl) Try.underlying67 (by kernel_rfl) (opensF_cons op5 (opensF_cons op5 (opensF_cons op5 (opensF_cons op5 (opensF_cons op5 (opensF_cons op5 (opensF_cons op5 (opensF_cons op5 (opensF_cons op5 (opensF_cons op5 (opensF_cons op5 (opensF_cons op5 (opensF_cons op5 (opensF_cons op5 (opensF_cons op5 (opensF_cons op5 (opensF_cons op5 (opensF_cons op5 (opensF_cons op5 (opensF_cons op5 (opensF_cons op5 (opensF_cons op5 (opensF_cons op5 (opensF_one op5))))))))))))))))))))))))
theorem op22 : Opens Try.prog 22 (Kd.slice 67 k67) (fun x : List (S67) => (x.length ≤ 9223372036854775807 ∧ ∀ x_ ∈ x, (Lit.int .u8 x_.f0).wf = true ∧ (Lit.int .u8 x_.f1).wf = true ∧ (Lit.int .u8 x_.f2).wf = true ∧ (Lit.int .u8 x_.f3).wf = true ∧ (Lit.int .u8 x_.f4).wf = true ∧ (Lit.int .u8 x_.f5).wf = true ∧ (Lit.int .u8 x_.f6).wf = true ∧ (Lit.int .u8 x_.f7).wf = true ∧ (Lit.int .u8 x_.f8).wf = true ∧ (Lit.int .u8 x_.f9).wf = true ∧ (Lit.int .u8 x_.f10).wf = true ∧ (Lit.int .u8 x_.f11).wf = true ∧ (Lit.int .u8 x_.f12).wf = true ∧ (Lit.int .u8 x_.f13).wf = true ∧ (Lit.int .u8 x_.f14).wf = true ∧ (Lit.int .u8 x_.f15).wf = true ∧ (Lit.int .u8 x_.f16).wf = true ∧ (Lit.int .u8 x_.f17).wf = true ∧ (Lit.int .u8 x_.f18).wf = true ∧ (Lit.int .u8 x_.f19).wf = true ∧ (Lit.int .u8 x_.f20).wf = true ∧ (Lit.int .u8 x_.f21).wf = true ∧ (Lit.int .u8 x_.f22).wf = true ∧ (Lit.int .u8 x_.f23).wf = true)) := opens_slice Try.underlying22 (by kernel_rfl) op67
theorem op55 : Opens Try.prog 55 (Kd.slice 5 (Kd.int .u8)) (fun x : List Int => (x.length ≤ 9223372036854775807 ∧ ∀ x_ ∈ x, (Lit.int .u8 x_).wf = true)) := opens_slice Try.underlying55 (by kernel_rfl) op5
theorem op23 : Opens Try.prog 23 (Kd.slice 55 (Kd.slice 5 (Kd.int .u8))) (fun x : List (List Int) => (x.length ≤ 9223372036854775807 ∧ ∀ x_ ∈ x, (x_.length ≤ 9223372036854775807 ∧ ∀ x__ ∈ x_, (Lit.int .u8 x__).wf = true))) := opens_slice Try.underlying23 (by kernel_rfl) op55
theorem op25 : Opens Try.prog 25 k25 (fun x : S25 => (x.f0.length ≤ 9223372036854775807 ∧ ∀ x_ ∈ x.f0, (Lit.int .u8 x_.f0).wf = true ∧ (Lit.int .u8 x_.f1).wf = true ∧ (Lit.int .u8 x_.f2).wf = true ∧ (Lit.int .u8 x_.f3).wf = true ∧ (Lit.int .u8 x_.f4).wf = true ∧ (Lit.int .u8 x_.f5).wf = true ∧ (Lit.int .u8 x_.f6).wf = true ∧ (Lit.int .u8 x_.f7).wf = true ∧ (Lit.int .u8 x_.f8).wf = true ∧ (Lit.int .u8 x_.f9).wf = true ∧ (Lit.int .u8 x_.f10).wf = true ∧ (Lit.int .u8 x_.f11).wf = true ∧ (Lit.int .u8 x_.f12).wf = true ∧ (Lit.int .u8 x_.f13).wf = true ∧ (Lit.int .u8 x_.f14).wf = true ∧ (Lit.int .u8 x_.f15).wf = true ∧ (Lit.int .u8 x_.f16).wf = true ∧ (Lit.int .u8 x_.f17).wf = true ∧ (Lit.int .u8 x_.f18).wf = true ∧ (Lit.int .u8 x_.f19).wf = true ∧ (Lit.int .u8 x_.f20).wf = true ∧ (Lit.int .u8 x_.f21).wf = true ∧ (Lit.int .u8 x_.f22).wf = true ∧ (Lit.int .u8 x_.f23).wf = true) ∧ (x.f1.length ≤ 9223372036854775807 ∧ ∀ x_ ∈ x.f1, (x_.length ≤ 9223372036854775807 ∧ ∀ x__ ∈ x_, (Lit.int .u8 x__).wf = true))) := opens_struct (fun x : S25 => (x.f0, x.f1)) (fun a => ⟨a.1, a.2⟩) (fun _ => rfl) Try.underlying25 (by kernel_rfl) (by kernel_rfl) (opensF_cons op22 (opensF_one op23))
end Go.Proofs.Ytgfknljhogfeaaa.G
end

section
namespace Go.Proofs.Ytgfknljhogfeaaa.G.Pure
open Go.RowKit Go.Proofs.Ytgfknljhogfeaaa.G Go.Proofs.YtgfknljhogfeaaaW.PrintWords Go.Proofs.YtgfknljhogfeaaaW.PrintLast Go.Proofs.YtgfknljhogfeaaaW.PrintMore
set_option linter.unusedVariables false
set_option linter.unusedSimpArgs false
theorem w64 {n : Int} (h0 : -9223372036854775808 ≤ n) (h1 : n ≤ 9223372036854775807) : wrap64 n = n := by
  unfold wrap64
  omega
theorem loop_inv {σ γ : Type} (L : Nat → σ → Option γ) (n : Nat) (I : Nat → σ → Prop) (R : γ → Prop)
    (hs : ∀ k i s, i < n → I i s → (∃ s', I (i + 1) s' ∧ L (k + 1) s = L k s') ∨ (∃ r, R r ∧ L (k + 1) s = some r))
    (he : ∀ k s, I n s → ∃ r, R r ∧ L (k + 1) s = some r) : ∀ k s, I 0 s → n < k → ∃ r, R r ∧ L k s = some r := by
  have go : ∀ d i k s, i + d = n → I i s → d < k → ∃ r, R r ∧ L k s = some r := by
    intro d
    induction d with
    | zero =>
      intro i k s hi hI hk
      obtain ⟨k, rfl⟩ : ∃ m, k = m + 1 := ⟨k - 1, by omega⟩
      obtain rfl : i = n := by omega
      exact he k s hI
    | succ d ih =>
      intro i k s hi hI hk
      obtain ⟨k, rfl⟩ : ∃ m, k = m + 1 := ⟨k - 1, by omega⟩
      rcases hs k i s (by omega) hI with ⟨s', hI', h⟩ | h
      · rw [h]
        exact ih (i + 1) k s' (by omega) hI' (by omega)
      · exact h
  intro k s hI hk
  exact go n 0 k s (by omega) hI hk
theorem take_set_succ {α : Type} {l : List α} {i : Nat} (h : i < l.length) (v : α) : (l.set i v).take (i + 1) = l.take i ++ [v] := by
  rw [List.take_succ_eq_append_getElem (by simpa using h)]
  simp [List.take_set_of_le]
theorem rd_nat {l : List Int} {i : Nat} (h : i < l.length) : rd l (i : Int) = l[i] := by
  simp [rd, List.getD_eq_getElem?_getD, List.getElem?_eq_getElem h]
end Go.Proofs.Ytgfknljhogfeaaa.G.Pure
end

section
namespace Go.Proofs.Ytgfknljhogfeaaa.G.Pure
open Go.RowKit Go.Proofs.Ytgfknljhogfeaaa.G Go.Proofs.YtgfknljhogfeaaaW.PrintWords Go.Proofs.YtgfknljhogfeaaaW.PrintLast Go.Proofs.YtgfknljhogfeaaaW.PrintMore
set_option linter.unusedVariables false
set_option linter.unusedSimpArgs false
theorem loop_inv2 {σ γ : Type} (L : Nat → σ → Option γ) (n K0 : Nat) (I : Nat → σ → Prop) (R : γ → Prop)
    (hs : ∀ k i s, i < n → K0 ≤ k → I i s → (∃ s', I (i + 1) s' ∧ L (k + 1) s = L k s') ∨ (∃ r, R r ∧ L (k + 1) s = some r))
    (he : ∀ k s, K0 ≤ k → I n s → ∃ r, R r ∧ L (k + 1) s = some r) : ∀ k s, I 0 s → n + K0 < k → ∃ r, R r ∧ L k s = some r := by
  have go : ∀ d i k s, i + d = n → I i s → d + K0 < k → ∃ r, R r ∧ L k s = some r := by
    intro d
    induction d with
    | zero =>
      intro i k s hi hI hk
      obtain ⟨k, rfl⟩ : ∃ m, k = m + 1 := ⟨k - 1, by omega⟩
      obtain rfl : i = n := by omega
      exact he k s (by omega) hI
    | succ d ih =>
      intro i k s hi hI hk
      obtain ⟨k, rfl⟩ : ∃ m, k = m + 1 := ⟨k - 1, by omega⟩
      rcases hs k i s (by omega) (by omega) hI with ⟨s', hI', h⟩ | h
      · rw [h]
        exact ih (i + 1) k s' (by omega) hI' (by omega)
      · exact h
  intro k s hI hk
  exact go n 0 k s (by omega) hI (by omega)
end Go.Proofs.Ytgfknljhogfeaaa.G.Pure
end

section
namespace Go.Proofs.Ytgfknljhogfeaaa.G.Pure
open Go.RowKit Go.Proofs.Ytgfknljhogfeaaa.G Go.Proofs.YtgfknljhogfeaaaW.PrintWords Go.Proofs.YtgfknljhogfeaaaW.PrintLast Go.Proofs.YtgfknljhogfeaaaW.PrintMore
set_option linter.unusedVariables false
set_option linter.unusedSimpArgs false
theorem eq_loop (L : Nat → Int → Option Bool) (a b : List Int) (hlen : a.length = b.length)
    (hs : ∀ k i, i < a.length → L (k + 1) (i : Int) = if rd a (i : Int) = rd b (i : Int) then L k ((i + 1 : Nat) : Int) else some false) (he : ∀ k, L (k + 1) (a.length : Int) = some true) : ∀ k, a.length < k → L k 0 = some (decide (a = b)) := by
  intro k hk
  obtain ⟨r, hr, h⟩ := loop_inv L a.length (fun i s => s = (i : Int) ∧ ∀ j (h : j < a.length), j < i → a[j] = b[j]) (fun r => r = decide (a = b))
    (fun k i s hi ⟨h1, h2⟩ => by
      subst h1
      rw [hs k i hi, rd_nat hi, rd_nat (by omega)]
      by_cases h : a[i] = b[i]
      · rw [if_pos h]
        refine .inl ⟨((i + 1 : Nat) : Int), ⟨rfl, fun j hj hji => ?_⟩, rfl⟩
        rcases Nat.lt_succ_iff_lt_or_eq.1 hji with e | e
        · exact h2 j hj e
        · subst e
          exact h
      · rw [if_neg h]
        refine .inr ⟨false, ?_, rfl⟩
        rw [decide_eq_false]
        rintro rfl
        exact h rfl)
    (fun k s ⟨h1, h2⟩ => by
      subst h1
      refine ⟨true, ?_, he k⟩
      rw [decide_eq_true]
      exact List.ext_getElem hlen fun j h1 h3 => h2 j h1 h1) k 0 ⟨rfl, fun j _ h => absurd h (Nat.not_lt_zero _)⟩ hk
  subst hr
  exact h
end Go.Proofs.Ytgfknljhogfeaaa.G.Pure
end

section
namespace Go.Proofs.Ytgfknljhogfeaaa.G.Pure
open Go.RowKit Go.Proofs.Ytgfknljhogfeaaa.G Go.Proofs.YtgfknljhogfeaaaW.PrintWords Go.Proofs.YtgfknljhogfeaaaW.PrintLast Go.Proofs.YtgfknljhogfeaaaW.PrintMore
set_option linter.unusedVariables false
set_option linter.unusedSimpArgs false
theorem eqWord_self (k : Nat) (a : List Int) (hl : a.length ≤ 1048576) (hk : a.length < k) : laws_eqWord.f k a a = some true := by
  unfold laws_eqWord.f
  rw [if_pos rfl]
  have e := eq_loop (fun k i => laws_eqWord.l0 k a a i) a a rfl (fun k i hi => by
    simp only [laws_eqWord.l0]
    rw [if_pos (by omega), if_pos (by omega), if_pos (by omega), w64 (by omega) (by omega)]
    rfl) (fun k => by
    simp only [laws_eqWord.l0]
    rw [if_neg (by omega)]) k hk
  rw [e]
  simp
end Go.Proofs.Ytgfknljhogfeaaa.G.Pure
end

section
namespace Go.Proofs.Ytgfknljhogfeaaa.G.Pure
open Go.RowKit Go.Proofs.Ytgfknljhogfeaaa.G Go.Proofs.YtgfknljhogfeaaaW.PrintWords Go.Proofs.YtgfknljhogfeaaaW.PrintLast Go.Proofs.YtgfknljhogfeaaaW.PrintMore
set_option linter.unusedVariables false
set_option linter.unusedSimpArgs false
theorem toWord_eq (k : Nat) (l : List Int) (hl : l.length ≤ 1048576) (hk : l.length < k) : laws_toWord.f k l = some l := by
  unfold laws_toWord.f
  rw [if_pos (by omega), if_pos (by omega)]
  obtain ⟨r, hr, h⟩ := loop_inv (fun k (s : List Int × Int) => laws_toWord.l0 k l s.1 s.2) l.length (fun i s => s.2 = (i : Int) ∧ s.1.length = l.length ∧ s.1.take i = l.take i) (fun r => r = l)
    (fun k i s hi ⟨h1, h2, h3⟩ => by
      obtain ⟨acc, x⟩ := s
      simp only at h1 h2 h3
      subst h1
      refine .inl ⟨(acc.set i l[i], ((i + 1 : Nat) : Int)), ⟨rfl, by simpa using h2, ?_⟩, ?_⟩
      · rw [take_set_succ (by omega), h3, List.take_succ_eq_append_getElem hi]
      · simp only [laws_toWord.l0]
        rw [if_pos (by omega), if_pos (by omega), if_pos (by omega), rd_nat hi, w64 (by omega) (by omega)]
        rfl)
    (fun k s ⟨h1, h2, h3⟩ => by
      obtain ⟨acc, x⟩ := s
      simp only at h1 h2 h3
      subst h1
      refine ⟨acc, ?_, ?_⟩
      · rw [List.take_of_length_le (by omega), List.take_of_length_le (by omega)] at h3
        exact h3
      · simp only [laws_toWord.l0]
        rw [if_neg (by omega)]) k (List.replicate l.length 0, 0) ⟨rfl, by simp, by simp⟩ hk
  subst hr
  simpa using h
end Go.Proofs.Ytgfknljhogfeaaa.G.Pure
end

section
namespace Go.Proofs.Ytgfknljhogfeaaa.G.Pure
open Go.RowKit Go.Proofs.Ytgfknljhogfeaaa.G Go.Proofs.YtgfknljhogfeaaaW.PrintWords Go.Proofs.YtgfknljhogfeaaaW.PrintLast Go.Proofs.YtgfknljhogfeaaaW.PrintMore
set_option linter.unusedVariables false
set_option linter.unusedSimpArgs false
abbrev Ws := List (List Int)
theorem rdX {l : Ws} {i : Nat} (h : i < l.length) : rd_L2 l (i : Int) = l[i] := by
  simp [rd_L2, List.getD_eq_getElem?_getD, List.getElem?_eq_getElem h]
theorem szWord_eq (l : List Int) (a : Int) (h0 : 0 ≤ a) (h1 : a ≤ 1048576) (hl : l.length ≤ 9223372036854775807) : laws_szWord.f l a = some (if a - l.length < 0 then -1 else a - l.length) := by
  unfold laws_szWord.f
  rw [w64 (by omega) (by omega)]
  split <;> rfl
theorem szWordS_ok {k : Nat} {l : Ws} {a0 : Int} (ha0 : 0 ≤ a0) (ha1 : a0 ≤ 1048576) (hl : l.length ≤ 9223372036854775807) (hi : ∀ x ∈ l, x.length ≤ 9223372036854775807) (hk : 1100000 < k) : ∃ n, laws_szWordS.f k l a0 = some n ∧ (n < 0 ∨ ¬ n < 0 ∧ n ≤ 1048576 ∧ l.length ≤ 1048576 ∧ ∀ x ∈ l, x.length ≤ 1048576) := by
  unfold laws_szWordS.f
  rw [w64 (by omega) (by omega)]
  by_cases h : a0 - (l.length : Int) < 0
  · rw [if_pos h]
    exact ⟨-1, rfl, .inl (by omega)⟩
  · rw [if_neg h]
    obtain ⟨r, hr, h'⟩ := loop_inv (fun k (s : Int × Int) => laws_szWordS.l0 k l s.1 s.2) l.length (fun i s => s.2 = (i : Int) ∧ 0 ≤ s.1 ∧ s.1 ≤ 1048576 ∧ ∀ j (h : j < l.length), j < i → l[j].length ≤ 1048576) (fun n => n < 0 ∨ ¬ n < 0 ∧ n ≤ 1048576 ∧ l.length ≤ 1048576 ∧ ∀ x ∈ l, x.length ≤ 1048576)
      (fun k i s hil ⟨h1, h2, h3, h4⟩ => by
        obtain ⟨a, x⟩ := s
        simp only at h1 h2 h3 h4
        subst h1
        have hx := hi _ (List.getElem_mem hil)
        simp only [laws_szWordS.l0]
        rw [if_pos (by omega), if_pos (by omega), rdX hil, szWord_eq _ _ h2 h3 hx]
        simp only [Option.bind_some]
        by_cases hneg : a - (l[i].length : Int) < 0
        · rw [if_pos hneg, if_pos (by omega)]
          exact .inr ⟨-1, .inl (by omega), rfl⟩
        · rw [if_neg hneg, if_neg hneg, w64 (by omega) (by omega)]
          refine .inl ⟨(a - (l[i].length : Int), ((i + 1 : Nat) : Int)), ⟨rfl, by simp only; omega, by simp only; omega, fun j hj hji => ?_⟩, rfl⟩
          rcases Nat.lt_succ_iff_lt_or_eq.1 hji with e | e
          · exact h4 j hj e
          · subst e
            omega)
      (fun k s ⟨h1, h2, h3, h4⟩ => by
        obtain ⟨a, x⟩ := s
        simp only at h1 h2 h3 h4
        subst h1
        refine ⟨a, .inr ⟨by omega, by omega, by omega, fun x hx => ?_⟩, ?_⟩
        · obtain ⟨j, hj, rfl⟩ := List.mem_iff_getElem.1 hx
          exact h4 j hj hj
        · simp only [laws_szWordS.l0]
          rw [if_neg (by omega)]) k (a0 - (l.length : Int), 0) ⟨rfl, by simp only; omega, by simp only; omega, fun j _ h => absurd h (Nat.not_lt_zero _)⟩ (by omega)
    exact ⟨r, h', hr⟩
theorem toWordS_eq {k : Nat} {l : Ws} (hl : l.length ≤ 1048576) (hi : ∀ x ∈ l, x.length ≤ 1048576) (hk : 2200000 < k) : laws_toWordS.f k l = some l := by
  unfold laws_toWordS.f
  rw [if_pos (by omega), if_pos (by omega)]
  obtain ⟨r, hr, h⟩ := loop_inv2 (fun k (s : Ws × Int) => laws_toWordS.l0 k l s.1 s.2) l.length 1048577 (fun i s => s.2 = (i : Int) ∧ s.1.length = l.length ∧ s.1.take i = l.take i) (fun r => r = l)
    (fun k i s hil hk ⟨h1, h2, h3⟩ => by
      obtain ⟨acc, x⟩ := s
      simp only at h1 h2 h3
      subst h1
      refine .inl ⟨(acc.set i l[i], ((i + 1 : Nat) : Int)), ⟨rfl, by simpa using h2, ?_⟩, ?_⟩
      · rw [take_set_succ (by omega), h3, List.take_succ_eq_append_getElem hil]
      · simp only [laws_toWordS.l0]
        rw [if_pos (by omega), if_pos (by omega), rdX hil, toWord_eq k _ (hi _ (List.getElem_mem hil)) (by have := hi _ (List.getElem_mem hil); omega)]
        simp only [Option.bind_some]
        rw [if_pos (by omega), w64 (by omega) (by omega)]
        rfl)
    (fun k s hk ⟨h1, h2, h3⟩ => by
      obtain ⟨acc, x⟩ := s
      simp only at h1 h2 h3
      subst h1
      refine ⟨acc, ?_, ?_⟩
      · rw [List.take_of_length_le (by omega), List.take_of_length_le (by omega)] at h3
        exact h3
      · simp only [laws_toWordS.l0]
        rw [if_neg (by omega)]) k (List.replicate l.length [], 0) ⟨rfl, by simp, by simp⟩ (by omega)
  subst hr
  simpa using h
theorem eqWordS_self {k : Nat} {l : Ws} (hl : l.length ≤ 1048576) (hi : ∀ x ∈ l, x.length ≤ 1048576) (hk : 2200000 < k) : laws_eqWordS.f k l l = some true := by
  unfold laws_eqWordS.f
  rw [if_pos rfl]
  obtain ⟨r, hr, h⟩ := loop_inv2 (fun k (s : Int) => laws_eqWordS.l0 k l l s) l.length 1048577 (fun i s => s = (i : Int)) (fun r => r = true)
    (fun k i s hil hk h1 => by
      subst h1
      refine .inl ⟨((i + 1 : Nat) : Int), rfl, ?_⟩
      simp only [laws_eqWordS.l0]
      rw [if_pos (by omega), if_pos (by omega), if_pos (by omega), rdX hil, eqWord_self k _ (hi _ (List.getElem_mem hil)) (by have := hi _ (List.getElem_mem hil); omega)]
      simp only [Option.bind_some, if_true]
      rw [w64 (by omega) (by omega)]
      rfl)
    (fun k s hk h1 => by
      subst h1
      refine ⟨true, rfl, ?_⟩
      simp only [laws_eqWordS.l0]
      rw [if_neg (by omega)]) k 0 rfl (by omega)
  subst hr
  exact h
theorem szCode_cases {k : Nat} (s : List S67) (ws : Ws) (hs : s.length ≤ 9223372036854775807) (hw : ws.length ≤ 9223372036854775807) (hi : ∀ x ∈ ws, x.length ≤ 9223372036854775807) (hk : 1100000 < k) : ∃ r, laws_szCode.f k s ws 1048576 = some r ∧ (r < 0 ∨ (0 ≤ r ∧ r ≤ 1048576 ∧ s.length ≤ 1048576 ∧ ws.length ≤ 1048576 ∧ ∀ x ∈ ws, x.length ≤ 1048576)) := by
  unfold laws_szCode.f laws_szFlagS.f
  rw [w64 (by omega) (by omega)]
  by_cases h : (1048576 : Int) - (s.length : Int) < 0
  · rw [if_pos h]
    exact ⟨-1, rfl, .inl (by omega)⟩
  · rw [if_neg h]
    simp only [Option.bind_some]
    rw [if_neg h]
    obtain ⟨n, hn, hc⟩ := szWordS_ok (k := k) (l := ws) (a0 := 1048576 - (s.length : Int)) (by omega) (by omega) hw hi hk
    rw [hn]
    simp only [Option.bind_some]
    rcases hc with hc | ⟨h1, h2, h3, h4⟩
    · rw [if_pos hc]
      exact ⟨-1, rfl, .inl (by omega)⟩
    · rw [if_neg h1]
      exact ⟨n, rfl, .inr ⟨by omega, h2, by omega, h3, h4⟩⟩
theorem toFlagS_eq (s : List S67) (h : s.length ≤ 1048576) : laws_toFlagS.f s = some (s.map laws_toFlagS.cv) := by
  unfold laws_toFlagS.f
  rw [if_pos (by omega)]
theorem toCode_eq {k : Nat} {s : List S67} {ws : Ws} (hs : s.length ≤ 1048576) (hw : ws.length ≤ 1048576) (hi : ∀ x ∈ ws, x.length ≤ 1048576) (hk : 2200000 < k) : laws_toCode.f k s ws = some (s.map laws_toFlagS.cv, ws) := by
  unfold laws_toCode.f
  rw [toFlagS_eq s hs, toWordS_eq hw hi hk]
  rfl
theorem eqCode_self {k : Nat} {fs : List S68} {ws : Ws} (hw : ws.length ≤ 1048576) (hi : ∀ x ∈ ws, x.length ≤ 1048576) (hk : 2200000 < k) : laws_eqCode.f k fs ws fs ws = some true := by
  unfold laws_eqCode.f laws_eqFlagS.f
  rw [decide_eq_true rfl, eqWordS_self hw hi hk]
  rfl
end Go.Proofs.Ytgfknljhogfeaaa.G.Pure
end

section
namespace Go.Proofs.Ytgfknljhogfeaaa.G.Pure
open Go.RowKit Go.Proofs.Ytgfknljhogfeaaa.G Go.Proofs.YtgfknljhogfeaaaW.PrintWords Go.Proofs.YtgfknljhogfeaaaW.PrintLast Go.Proofs.YtgfknljhogfeaaaW.PrintMore
set_option linter.unusedVariables false
set_option linter.unusedSimpArgs false
def okS (ws : Ws) (x : List Int) : Bool := (x.all (fun c => decide (c < 37)) && (decide (1 ≤ x.length) && decide (x.length ≤ 8))) && decide (x.length = (ws.getD 0 []).length)
def okC (fs : List S68) (ws : Ws) : Bool := decide (1 ≤ fs.length) && decide (fs.length ≤ 40) && decide (ws.length ≤ 60) && ws.all (okS ws) && (fs.all spec_l05Ok.flag && ws.all (spec_l05Ok.word fs.length))
theorem specWord_eq (k : Nat) (x : List Int) (hl : x.length ≤ 1048576) (hk : x.length < k) : spec_l05Word.f k x = some (x.all (fun c => decide (c < 37)) && (decide (1 ≤ x.length) && decide (x.length ≤ 8))) := by
  unfold spec_l05Word.f
  obtain ⟨r, hr, h⟩ := loop_inv (fun k (s : Int) => spec_l05Word.l0 k x s) x.length (fun i s => s = (i : Int) ∧ ∀ j (h : j < x.length), j < i → x[j] < 37) (fun r => r = (x.all (fun c => decide (c < 37)) && (decide (1 ≤ x.length) && decide (x.length ≤ 8))))
    (fun k i s hi ⟨h1, h2⟩ => by
      subst h1
      simp only [spec_l05Word.l0]
      rw [if_pos (by omega), if_pos (by omega), rd_nat hi]
      by_cases hc : x[i] ≥ 37
      · rw [if_pos hc]
        refine .inr ⟨false, ?_, rfl⟩
        have : x.all (fun c => decide (c < 37)) = false := by
          rw [List.all_eq_false]
          exact ⟨x[i], List.getElem_mem hi, by simp; omega⟩
        rw [this]
        rfl
      · rw [if_neg hc, w64 (by omega) (by omega)]
        refine .inl ⟨((i + 1 : Nat) : Int), ⟨rfl, fun j hj hji => ?_⟩, rfl⟩
        rcases Nat.lt_succ_iff_lt_or_eq.1 hji with e | e
        · exact h2 j hj e
        · subst e
          omega)
    (fun k s ⟨h1, h2⟩ => by
      subst h1
      have hall : x.all (fun c => decide (c < 37)) = true := by
        rw [List.all_eq_true]
        intro c hc
        obtain ⟨j, hj, rfl⟩ := List.mem_iff_getElem.1 hc
        exact decide_eq_true (h2 j hj hj)
      refine ⟨_, rfl, ?_⟩
      simp only [spec_l05Word.l0, spec_l00In.f]
      rw [if_neg (by omega), hall, Bool.true_and]
      by_cases h1 : (x.length : Int) ≥ 1
      · rw [if_pos h1, decide_eq_true (show 1 ≤ x.length by omega), Bool.true_and]
        simp only [Option.bind_some, Option.some.injEq]
        exact decide_eq_decide.2 (by omega)
      · rw [if_neg h1, decide_eq_false (show ¬ 1 ≤ x.length by omega), Bool.false_and]
        rfl) k 0 ⟨rfl, fun j _ h => absurd h (Nat.not_lt_zero _)⟩ hk
  subst hr
  exact h
theorem specWords_eq {k : Nat} {ws : Ws} (hl : ws.length ≤ 1048576) (hi : ∀ x ∈ ws, x.length ≤ 1048576) (hk : 2200000 < k) : spec_l05Words.f k ws = some (ws.all (okS ws)) := by
  unfold spec_l05Words.f
  obtain ⟨r, hr, h⟩ := loop_inv2 (fun k (s : Int) => spec_l05Words.l0 k ws s) ws.length 1048577 (fun i s => s = (i : Int) ∧ ∀ j (h : j < ws.length), j < i → okS ws ws[j] = true) (fun r => r = ws.all (okS ws))
    (fun k i s hil hk ⟨h1, h2⟩ => by
      subst h1
      have hx := hi _ (List.getElem_mem hil)
      have hno : okS ws ws[i] = false → ws.all (okS ws) = false := fun h => by
        rw [List.all_eq_false]
        exact ⟨ws[i], List.getElem_mem hil, by rw [h]; decide⟩
      have h0 : rd_L2 ws 0 = ws.getD 0 [] := rfl
      simp only [spec_l05Words.l0]
      rw [if_pos (by omega), if_pos (by omega), rdX hil, specWord_eq k _ hx (by omega)]
      simp only [Option.bind_some]
      by_cases hc : (ws[i].all (fun c => decide (c < 37)) && (decide (1 ≤ ws[i].length) && decide (ws[i].length ≤ 8))) = true
      · rw [if_pos hc, if_pos (by omega)]
        by_cases he : (ws[i].length : Int) = ((rd_L2 ws 0).length : Int)
        · rw [if_pos he, w64 (by omega) (by omega)]
          refine .inl ⟨((i + 1 : Nat) : Int), ⟨rfl, fun j hj hji => ?_⟩, rfl⟩
          rcases Nat.lt_succ_iff_lt_or_eq.1 hji with e | e
          · exact h2 j hj e
          · subst e
            unfold okS
            rw [hc, Bool.true_and]
            rw [h0] at he
            exact decide_eq_true (by omega)
        · rw [if_neg he]
          refine .inr ⟨false, (hno ?_).symm, rfl⟩
          unfold okS
          rw [h0] at he
          rw [decide_eq_false (show ¬ ws[i].length = (ws.getD 0 []).length by omega), Bool.and_false]
      · rw [if_neg hc]
        refine .inr ⟨false, (hno ?_).symm, rfl⟩
        unfold okS
        rw [Bool.eq_false_iff.2 hc, Bool.false_and])
    (fun k s hk ⟨h1, h2⟩ => by
      subst h1
      refine ⟨true, ?_, ?_⟩
      · symm
        rw [List.all_eq_true]
        intro x hx
        obtain ⟨j, hj, rfl⟩ := List.mem_iff_getElem.1 hx
        exact h2 j hj hj
      · simp only [spec_l05Words.l0]
        rw [if_neg (by omega)]) k 0 ⟨rfl, fun j _ h => absurd h (Nat.not_lt_zero _)⟩ (by omega)
  subst hr
  exact h
theorem specOk_eq {k : Nat} {fs : List S68} {ws : Ws} (hl : ws.length ≤ 1048576) (hi : ∀ x ∈ ws, x.length ≤ 1048576) (hk : 2200000 < k) : spec_l05Ok.f k fs ws = some (okC fs ws) := by
  unfold spec_l05Ok.f spec_l00In.f okC
  by_cases h1 : (fs.length : Int) ≥ 1
  · rw [if_pos h1, decide_eq_true (show 1 ≤ fs.length by omega), Bool.true_and]
    simp only [Option.bind_some]
    by_cases h2 : fs.length ≤ 40
    · rw [decide_eq_true h2, Bool.true_and, if_pos (decide_eq_true (by omega))]
      by_cases h3 : (ws.length : Int) > 60
      · rw [if_pos h3, decide_eq_false (show ¬ ws.length ≤ 60 by omega), Bool.false_and, Bool.false_and]
      · rw [if_neg h3, decide_eq_true (show ws.length ≤ 60 by omega), Bool.true_and, specWords_eq hl hi hk]
        simp only [Option.bind_some]
        cases ws.all (okS ws)
        · rfl
        · rw [if_pos rfl, Bool.true_and]
    · rw [decide_eq_false h2, if_neg (by simp; omega)]
      rfl
  · rw [if_neg h1, decide_eq_false (show ¬ 1 ≤ fs.length by omega)]
    rfl
def okI (n : Int) (ws : Ws) (x : List Int) : Bool := ((decide (1 ≤ x.length) && decide (x.length ≤ 8)) && x.all (fun c => !decide (wrap64 c ≥ mn n 37))) && decide (x.length = (ws.getD 0 []).length)
theorem isWord_eq (x : List Int) (n : Int) : impl_Word_isWord.f x n = some ((decide (1 ≤ x.length) && decide (x.length ≤ 8)) && x.all (fun c => !decide (wrap64 c ≥ mn n 37))) := by
  have e : slices_ContainsFunc_Word_uint8__impl_Word_isWord_1.f x n = some (x.any fun c => decide (wrap64 c ≥ mn n 37)) := anyO_eq fun c _ => rfl
  unfold impl_Word_isWord.f impl_size_uint8.f impl_within.f
  simp only [Option.bind_some]
  by_cases h1 : (1 : Int) ≤ (x.length : Int)
  · rw [if_pos h1, decide_eq_true (show 1 ≤ x.length by omega), Bool.true_and]
    simp only [Option.bind_some]
    by_cases h2 : x.length ≤ 8
    · rw [if_pos (decide_eq_true (by omega)), e, decide_eq_true h2, Bool.true_and]
      simp only [Option.bind_some, Option.some.injEq]
      rw [← List.not_any_eq_all_not]
    · rw [if_neg (by simp; omega), decide_eq_false h2, Bool.false_and]
  · rw [if_neg h1, decide_eq_false (show ¬ 1 ≤ x.length by omega)]
    rfl
theorem areWords_eq (ws : Ws) (n : Int) : impl_areWords.f ws n = some (ws.all (okI n ws)) := by
  have e : slices_ContainsFunc_Word_Word__impl_areWords_1.f ws n ws = some (ws.any fun x => !okI n ws x) := anyO_eq fun x hx => by
    have hp : 0 < (ws.length : Int) := by
      have := List.length_pos_of_mem hx
      omega
    unfold impl_areWords_1.f
    rw [isWord_eq]
    simp only [Option.bind_some]
    unfold okI
    cases ((decide (1 ≤ x.length) && decide (x.length ≤ 8)) && x.all (fun c => !decide (wrap64 c ≥ mn n 37)))
    · rfl
    · rw [if_pos rfl, if_pos hp, Bool.true_and]
      have h0 : rd_L2 ws 0 = ws.getD 0 [] := rfl
      rw [h0]
      generalize (ws.getD 0 []).length = m
      congr 1
      by_cases he : x.length = m
      · rw [he]; simp
      · rw [decide_eq_false he, bne_iff_ne.2 (show ¬ (x.length : Int) = (m : Int) by omega)]; rfl
  unfold impl_areWords.f
  rw [e]
  simp only [Option.bind_some, Option.some.injEq]
  rw [List.not_any_eq_all_not]
  simp
theorem implOk_eq {fs : List S68} {ws : Ws} (hw : ∀ x ∈ ws, ∀ c ∈ x, 0 ≤ c ∧ c ≤ 255) : impl_ValidCode.f fs ws = some (okC fs ws) := by
  have e1 : slices_ContainsFunc_Flag_Flag__impl_setCode_1.f fs = some (fs.any fun x => !spec_l05Ok.flag x) := anyO_eq fun x _ => by
    show some ((arrL68 x).any fun c => decide (c ≥ 6)) = _
    unfold spec_l05Ok.flag
    rw [List.not_all_eq_any_not]
    congr 2
    funext c
    by_cases h : c ≤ 5
    · rw [decide_eq_true h, decide_eq_false (by omega)]; rfl
    · rw [decide_eq_false h, decide_eq_true (by omega)]; rfl
  have e2 : ∀ n : Nat, ws.all (okI (n : Int) ws) = (ws.all (okS ws) && ws.all (spec_l05Ok.word n)) := fun n => by
    rw [Bool.eq_iff_iff]
    simp only [Bool.and_eq_true, List.all_eq_true, okI, okS, spec_l05Ok.word, decide_eq_true_eq, Bool.not_eq_true', decide_eq_false_iff_not]
    constructor
    · intro h
      refine ⟨fun x hx => ⟨⟨fun c hc => ?_, (h x hx).1.1⟩, (h x hx).2⟩, fun x hx c hc => ?_⟩
      · have h1 := (h x hx).1.2 c hc
        have h2 := hw x hx c hc
        rw [w64 (by omega) (by omega)] at h1
        unfold mn at h1
        split at h1 <;> omega
      · have h1 := (h x hx).1.2 c hc
        have h2 := hw x hx c hc
        rw [w64 (by omega) (by omega)] at h1 ⊢
        unfold mn at h1
        split at h1 <;> omega
    · rintro ⟨ha, hb⟩ x hx
      refine ⟨⟨(ha x hx).1.2, fun c hc => ?_⟩, (ha x hx).2⟩
      have h1 := (ha x hx).1.1 c hc
      have h2 := hw x hx c hc
      have h3 := hb x hx c hc
      rw [w64 (by omega) (by omega)] at h3 ⊢
      unfold mn
      split <;> omega
  unfold impl_ValidCode.f impl_setCode.f impl_within.f impl_unless.f impl_size_Flag.f okC
  rw [e1]
  simp only [Option.bind_some]
  rw [areWords_eq]
  simp only [Option.bind_some]
  rw [e2]
  have hf : (fs.any fun x => !spec_l05Ok.flag x) = !fs.all spec_l05Ok.flag := by
    rw [List.not_all_eq_any_not]
  rw [hf]
  by_cases h1 : (fs.length : Int) > 0
  · rw [if_pos h1, decide_eq_true (show 1 ≤ fs.length by omega), Bool.true_and]
    cases hfl : fs.all spec_l05Ok.flag
    · simp
    · by_cases h2 : fs.length ≤ 40
      · have h2' : ¬ (fs.length : Int) > 40 := by omega
        rw [decide_eq_true h2, Bool.true_and]
        by_cases h3 : ws.length ≤ 60
        · have h3' : (ws.length : Int) ≤ 60 := by omega
          simp [h2', h3', h3]
        · have h3' : ¬ (ws.length : Int) ≤ 60 := by omega
          simp [h2', h3', h3]
      · have h2' : (fs.length : Int) > 40 := by omega
        rw [decide_eq_false h2]
        simp [h2']
  · rw [if_neg h1, decide_eq_false (show ¬ 1 ≤ fs.length by omega)]
    rfl
end Go.Proofs.Ytgfknljhogfeaaa.G.Pure
end

section
namespace Go.Proofs.Ytgfknljhogfeaaa.G.Pure
open Go.RowKit Go.Proofs.Ytgfknljhogfeaaa.G Go.Proofs.YtgfknljhogfeaaaW.PrintWords Go.Proofs.YtgfknljhogfeaaaW.PrintLast Go.Proofs.YtgfknljhogfeaaaW.PrintMore
set_option linter.unusedVariables false
set_option linter.unusedSimpArgs false
abbrev Fl := S68
abbrev Sg := S61
def seeC (fs : List Fl) (x : List Int) : List Sg := x.map (spec_l05Sights.see fs)
structure ValidC (fs : List Fl) (ws : Ws) : Prop where
  nf : fs.length ≤ 40
  nw : ws.length ≤ 60
  len : ∀ x ∈ ws, 1 ≤ x.length ∧ x.length ≤ 8 ∧ x.length = (ws.getD 0 []).length
  mem : ∀ x ∈ ws, ∀ c ∈ x, 0 ≤ c ∧ c < (fs.length : Int)
  flag : ∀ f ∈ fs, ∀ c ∈ arrL68 f, 0 ≤ c ∧ c < 6
theorem validC {fs : List Fl} {ws : Ws} (h : okC fs ws = true) (hw : ∀ x ∈ ws, ∀ c ∈ x, 0 ≤ c ∧ c ≤ 255) (hf : ∀ f ∈ fs, ∀ c ∈ arrL68 f, 0 ≤ c) : ValidC fs ws := by
  unfold okC at h
  simp only [Bool.and_eq_true, List.all_eq_true, okS, spec_l05Ok.flag, spec_l05Ok.word, decide_eq_true_eq] at h
  obtain ⟨⟨⟨⟨h1, h2⟩, h3⟩, h4⟩, h5, h6⟩ := h
  refine ⟨h2, h3, fun x hx => ⟨(h4 x hx).1.2.1, (h4 x hx).1.2.2, (h4 x hx).2⟩, fun x hx c hc => ?_, fun f hf' c hc => ⟨hf f hf' c hc, ?_⟩⟩
  · have h7 := hw x hx c hc
    have h8 := h6 x hx c hc
    rw [w64 (by omega) (by omega)] at h8
    exact ⟨h7.1, h8⟩
  · have := h5 f hf' c hc
    omega
theorem rdF_mem {fs : List Fl} {c : Int} (h0 : 0 ≤ c) (h1 : c < (fs.length : Int)) : rd_T68 fs c ∈ fs := by
  obtain ⟨j, rfl⟩ : ∃ j : Nat, c = (j : Int) := ⟨c.toNat, by omega⟩
  have hj : j < fs.length := by omega
  unfold rd_T68
  rw [Int.toNat_natCast, List.getD_eq_getElem?_getD, List.getElem?_eq_getElem hj]
  exact List.getElem_mem hj
theorem flag_all {fs : List Fl} {ws : Ws} (hv : ValidC fs ws) {c : Int} (h0 : 0 ≤ c) (h1 : c < (fs.length : Int)) : (arrL68 (rd_T68 fs c)).all (fun d => decide (0 ≤ d) && decide (d < 6)) = true := by
  rw [List.all_eq_true]
  intro d hd
  have := hv.flag _ (rdF_mem h0 h1) d hd
  rw [decide_eq_true this.1, decide_eq_true this.2]
  rfl
theorem blur_at (x : Fl) (h : (arrL68 x).all (fun d => decide (0 ≤ d) && decide (d < 6)) = true) : impl_Flag_blur.f x.f0 x.f1 x.f2 x.f3 x.f4 x.f5 x.f6 x.f7 x.f8 x.f9 x.f10 x.f11 x.f12 x.f13 x.f14 x.f15 x.f16 x.f17 x.f18 x.f19 x.f20 x.f21 x.f22 x.f23 = some (oneB (arrL68 x) 0, oneB (arrL68 x) 1, oneB (arrL68 x) 2, oneB (arrL68 x) 3, oneB (arrL68 x) 4, oneB (arrL68 x) 5) := by
  show (if (arrL68 x).all (fun d => decide (0 ≤ d) && decide (d < 6)) = true then _ else none) = _
  rw [if_pos h]
  rfl
theorem implSights_eq {k : Nat} {fs : List Fl} {ws : Ws} (hv : ValidC fs ws) (ws' : Ws) {x : List Int} (hx : x ∈ ws) (hk : 100 < k) : impl_Code_sights.f k fs ws' x = some (seeC fs x) := by
  have hl := hv.len x hx
  have hm := hv.mem x hx
  unfold impl_Code_sights.f
  obtain ⟨r, hr, h⟩ := loop_inv (fun k (s : List Sg × Int) => impl_Code_sights.l0 k s.1 x (x.length : Int) s.2 fs ws') x.length (fun i s => s.2 = (i : Int) ∧ s.1 = (x.take i).map (spec_l05Sights.see fs)) (fun r => r = seeC fs x)
    (fun k i s hi ⟨h1, h2⟩ => by
      obtain ⟨acc, j⟩ := s
      simp only at h1 h2
      subst h1
      have hc := hm _ (List.getElem_mem hi)
      refine .inl ⟨(acc ++ [spec_l05Sights.see fs x[i]], ((i + 1 : Nat) : Int)), ⟨rfl, ?_⟩, ?_⟩
      · simp only
        rw [List.take_succ_eq_append_getElem hi, List.map_append, h2]
        rfl
      · simp only [impl_Code_sights.l0]
        rw [if_pos (by omega), if_pos (by omega), if_pos (by omega), rd_nat hi, if_pos hc.1, if_pos hc.2, blur_at _ (flag_all hv hc.1 hc.2)]
        simp only [Option.bind_some]
        have hal : acc.length ≤ 8 := by rw [h2, List.length_map, List.length_take]; omega
        rw [if_pos (by omega), w64 (by omega) (by omega)]
        rfl)
    (fun k s ⟨h1, h2⟩ => by
      obtain ⟨acc, j⟩ := s
      simp only at h1 h2
      subst h1
      refine ⟨acc, ?_, ?_⟩
      · rw [h2, List.take_length]
        rfl
      · simp only [impl_Code_sights.l0]
        rw [if_neg (by omega)]) k ([], 0) ⟨rfl, by simp⟩ (by omega)
  subst hr
  exact h
theorem specSights_eq {fs : List Fl} {ws : Ws} (hv : ValidC fs ws) {i : Nat} (hi : i < ws.length) : spec_l05Sights.f fs ws (i : Int) = some (seeC fs ws[i]) := by
  have hx := List.getElem_mem hi
  have hl := hv.len _ hx
  have hm := hv.mem _ hx
  unfold spec_l05Sights.f
  have ha : (ws[i]).all (spec_l05Sights.fits fs) = true := by
    rw [List.all_eq_true]
    intro c hc
    have h := hm c hc
    unfold spec_l05Sights.fits
    rw [decide_eq_true h.1, decide_eq_true h.2, flag_all hv h.1 h.2]
    rfl
  rw [rdX hi, if_pos ⟨by omega, by omega, by omega, ha⟩]
  rfl
theorem u8b {n : Int} (h : (Lit.int .u8 n).wf = true) : 0 ≤ n ∧ n ≤ 255 := by
  simp [Lit.wf, IntKind.min, IntKind.max, IntKind.signed, IntKind.bits] at h
  omega
theorem wordsW {ws : Ws} (h : ∀ x ∈ ws, (x.length ≤ 9223372036854775807 ∧ ∀ x_ ∈ x, (Lit.int .u8 x_).wf = true)) : ∀ x ∈ ws, ∀ c ∈ x, 0 ≤ c ∧ c ≤ 255 := fun x hx c hc => u8b ((h x hx).2 c hc)
theorem flagsW {s : List S67} (h : ∀ x ∈ s, (Lit.int .u8 x.f0).wf = true ∧ (Lit.int .u8 x.f1).wf = true ∧ (Lit.int .u8 x.f2).wf = true ∧ (Lit.int .u8 x.f3).wf = true ∧ (Lit.int .u8 x.f4).wf = true ∧ (Lit.int .u8 x.f5).wf = true ∧ (Lit.int .u8 x.f6).wf = true ∧ (Lit.int .u8 x.f7).wf = true ∧ (Lit.int .u8 x.f8).wf = true ∧ (Lit.int .u8 x.f9).wf = true ∧ (Lit.int .u8 x.f10).wf = true ∧ (Lit.int .u8 x.f11).wf = true ∧ (Lit.int .u8 x.f12).wf = true ∧ (Lit.int .u8 x.f13).wf = true ∧ (Lit.int .u8 x.f14).wf = true ∧ (Lit.int .u8 x.f15).wf = true ∧ (Lit.int .u8 x.f16).wf = true ∧ (Lit.int .u8 x.f17).wf = true ∧ (Lit.int .u8 x.f18).wf = true ∧ (Lit.int .u8 x.f19).wf = true ∧ (Lit.int .u8 x.f20).wf = true ∧ (Lit.int .u8 x.f21).wf = true ∧ (Lit.int .u8 x.f22).wf = true ∧ (Lit.int .u8 x.f23).wf = true) : ∀ f ∈ s.map laws_toFlagS.cv, ∀ c ∈ arrL68 f, 0 ≤ c := by
  intro f hf c hc
  obtain ⟨x, hx, rfl⟩ := List.mem_map.1 hf
  rw [show arrL68 (laws_toFlagS.cv x) = arrL67 x from rfl] at hc
  have hq := h x hx
  obtain ⟨q0, q1, q2, q3, q4, q5, q6, q7, q8, q9, q10, q11, q12, q13, q14, q15, q16, q17, q18, q19, q20, q21, q22, q23⟩ := hq
  simp only [arrL67, List.mem_cons, List.not_mem_nil, or_false] at hc
  rcases hc with rfl | rfl | rfl | rfl | rfl | rfl | rfl | rfl | rfl | rfl | rfl | rfl | rfl | rfl | rfl | rfl | rfl | rfl | rfl | rfl | rfl | rfl | rfl | rfl <;> exact (u8b (by assumption)).1
end Go.Proofs.Ytgfknljhogfeaaa.G.Pure
end

section
namespace Go.Proofs.Ytgfknljhogfeaaa.G.Pure
open Go.RowKit Go.Proofs.Ytgfknljhogfeaaa.G Go.Proofs.YtgfknljhogfeaaaW.PrintWords Go.Proofs.YtgfknljhogfeaaaW.PrintLast Go.Proofs.YtgfknljhogfeaaaW.PrintMore
set_option linter.unusedVariables false
set_option linter.unusedSimpArgs false
theorem farTo_eq (a b : List Sg) : ∀ i, impl_sightsApart.to a b i = spec_l05Far.to a b i
  | 0 => rfl
  | i + 1 => by
    show impl_sightsApart.to a b i + _ = spec_l05Far.to a b i + _
    rw [farTo_eq a b i]
end Go.Proofs.Ytgfknljhogfeaaa.G.Pure
end

section
namespace Go.Proofs.Ytgfknljhogfeaaa.G.Pure
open Go.RowKit Go.Proofs.Ytgfknljhogfeaaa.G Go.Proofs.YtgfknljhogfeaaaW.PrintWords Go.Proofs.YtgfknljhogfeaaaW.PrintLast Go.Proofs.YtgfknljhogfeaaaW.PrintMore
set_option linter.unusedVariables false
set_option linter.unusedSimpArgs false
def pairD (fs : List Fl) (x y : List Int) : Nat := spec_l05Far.to (seeC fs x) (seeC fs y) (seeC fs x).length
theorem seeC_length (fs : List Fl) (x : List Int) : (seeC fs x).length = x.length := by unfold seeC; rw [List.length_map]
theorem specPair_eq {fs : List Fl} {x y : List Int} (h : x.length = y.length) (h8 : x.length ≤ 8) : spec_l05Far.f (seeC fs x) (seeC fs y) = some ((pairD fs x y : Nat) : Int) := by
  have h1 := seeC_length fs x
  have h2 := seeC_length fs y
  unfold spec_l05Far.f
  rw [if_pos ⟨by omega, by omega⟩]
  rfl
theorem implPair_eq {fs : List Fl} {x y : List Int} (h : x.length = y.length) (h8 : x.length ≤ 8) : impl_sightsApart.f (seeC fs x) (seeC fs y) = some ((pairD fs x y : Nat) : Int) := by
  have h1 := seeC_length fs x
  have h2 := seeC_length fs y
  unfold impl_sightsApart.f
  rw [if_pos ⟨by omega, by omega⟩, farTo_eq]
  rfl
theorem implPair_at {fs : List Fl} {ws : Ws} (hv : ValidC fs ws) {i j : Nat} (hi : i < ws.length) (hj : j < ws.length) : impl_NearestWords_1.f (i : Int) (j : Int) (ws.map (seeC fs)) = some ((pairD fs ws[i] ws[j] : Nat) : Int) := by
  have hx := hv.len _ (List.getElem_mem hi)
  have hy := hv.len _ (List.getElem_mem hj)
  have rdS : ∀ m, (hm : m < ws.length) → rd_L10 (ws.map (seeC fs)) (m : Int) = seeC fs ws[m] := fun m hm => by
    unfold rd_L10
    rw [Int.toNat_natCast, List.getD_eq_getElem?_getD, List.getElem?_map, List.getElem?_eq_getElem hm]
    rfl
  unfold impl_NearestWords_1.f
  rw [if_pos (by omega), if_pos (by rw [List.length_map]; omega), if_pos (by omega), if_pos (by rw [List.length_map]; omega), rdS i hi, rdS j hj, implPair_eq (by omega) (by omega)]
  rfl
def GoodN (x : Option (Int × Int × Int × Bool)) (y : Option (Int × Int × Int × Int)) (pos : Prop) : Prop := ∃ q1 q2 q3 : Int, x = some (q1, q2, q3, decide (q3 ≥ 0)) ∧ y = some (q1, q2, q3, 0) ∧ (pos → 0 ≤ q3)
theorem nearIn {fs : List Fl} {ws : Ws} (hv : ValidC fs ws) {i : Nat} (hi : i < ws.length) {K : Nat}
    (next : ∀ k a b c, K < k → GoodN (impl_nearest__impl_NearestWords_1.l0 k (ws.length : Int) a b c (ws.length : Int) ((i + 1 : Nat) : Int) (ws.map (seeC fs))) (spec_NearestWords.l0 k (ws.length : Int) a b c ((i + 1 : Nat) : Int) fs ws) (0 ≤ c ∨ i + 3 ≤ ws.length)) :
    ∀ e j, j + e = ws.length → ∀ k a b c, K + e < k - 1 → GoodN (impl_nearest__impl_NearestWords_1.l1 k (ws.length : Int) a b c (i : Int) (j : Int) (ws.length : Int) (i : Int) (ws.map (seeC fs))) (spec_NearestWords.l1 k (ws.length : Int) a b c (i : Int) (seeC fs ws[i]) (j : Int) fs ws) (0 ≤ c ∨ j < ws.length ∨ i + 3 ≤ ws.length) := by
  have hn := hv.nw
  have hwi : wrap64 ((i : Int) + 1) = ((i + 1 : Nat) : Int) := by rw [w64 (by omega) (by omega)]; rfl
  intro e
  induction e with
  | zero =>
    intro j hj k a b c hk
    obtain ⟨k, rfl⟩ : ∃ m, k = m + 1 := ⟨k - 1, by omega⟩
    obtain ⟨q1, q2, q3, h1, h2, h3⟩ := next k a b c (by omega)
    refine ⟨q1, q2, q3, ?_, ?_, fun hp => h3 (by omega)⟩
    · simp only [impl_nearest__impl_NearestWords_1.l1]
      rw [if_neg (by omega), hwi, h1]
    · simp only [spec_NearestWords.l1]
      rw [if_neg (by omega), hwi, h2]
  | succ e ih =>
    intro j hj k a b c hk
    obtain ⟨k, rfl⟩ : ∃ m, k = m + 1 := ⟨k - 1, by omega⟩
    have hj' : j < ws.length := by omega
    have hwj : wrap64 ((j : Int) + 1) = ((j + 1 : Nat) : Int) := by rw [w64 (by omega) (by omega)]; rfl
    have hx := hv.len _ (List.getElem_mem hi)
    have hy := hv.len _ (List.getElem_mem hj')
    have ei : impl_nearest__impl_NearestWords_1.l1 (k + 1) (ws.length : Int) a b c (i : Int) (j : Int) (ws.length : Int) (i : Int) (ws.map (seeC fs)) = if c < 0 ∨ ((pairD fs ws[i] ws[j] : Nat) : Int) < c then impl_nearest__impl_NearestWords_1.l1 k (ws.length : Int) (i : Int) (j : Int) ((pairD fs ws[i] ws[j] : Nat) : Int) (i : Int) ((j + 1 : Nat) : Int) (ws.length : Int) (i : Int) (ws.map (seeC fs)) else impl_nearest__impl_NearestWords_1.l1 k (ws.length : Int) a b c (i : Int) ((j + 1 : Nat) : Int) (ws.length : Int) (i : Int) (ws.map (seeC fs)) := by
      simp only [impl_nearest__impl_NearestWords_1.l1]
      rw [if_pos (by omega), implPair_at hv hi hj', hwj]
      simp only [Option.bind_some]
      by_cases h1 : c < 0
      · rw [if_pos h1, if_pos (.inl h1)]
      · rw [if_neg h1]
        by_cases h2 : ((pairD fs ws[i] ws[j] : Nat) : Int) < c
        · rw [if_pos h2, if_pos (.inr h2)]
        · rw [if_neg h2, if_neg (fun h => h.elim h1 h2)]
    have es : spec_NearestWords.l1 (k + 1) (ws.length : Int) a b c (i : Int) (seeC fs ws[i]) (j : Int) fs ws = if c < 0 ∨ ((pairD fs ws[i] ws[j] : Nat) : Int) < c then spec_NearestWords.l1 k (ws.length : Int) (i : Int) (j : Int) ((pairD fs ws[i] ws[j] : Nat) : Int) (i : Int) (seeC fs ws[i]) ((j + 1 : Nat) : Int) fs ws else spec_NearestWords.l1 k (ws.length : Int) a b c (i : Int) (seeC fs ws[i]) ((j + 1 : Nat) : Int) fs ws := by
      simp only [spec_NearestWords.l1]
      rw [if_pos (by omega), specSights_eq hv hj']
      simp only [Option.bind_some]
      rw [specPair_eq (by omega) (by omega), hwj]
      simp only [Option.bind_some]
      by_cases h1 : c < 0
      · rw [if_pos h1, if_pos (.inl h1)]
      · rw [if_neg h1]
        by_cases h2 : ((pairD fs ws[i] ws[j] : Nat) : Int) < c
        · rw [if_pos h2, if_pos (.inr h2)]
        · rw [if_neg h2, if_neg (fun h => h.elim h1 h2)]
    rw [ei, es]
    by_cases hc : c < 0 ∨ ((pairD fs ws[i] ws[j] : Nat) : Int) < c
    · rw [if_pos hc, if_pos hc]
      obtain ⟨q1, q2, q3, h1, h2, h3⟩ := ih (j + 1) (by omega) k (i : Int) (j : Int) ((pairD fs ws[i] ws[j] : Nat) : Int) (by omega)
      exact ⟨q1, q2, q3, h1, h2, fun _ => h3 (.inl (by omega))⟩
    · rw [if_neg hc, if_neg hc]
      obtain ⟨q1, q2, q3, h1, h2, h3⟩ := ih (j + 1) (by omega) k a b c (by omega)
      exact ⟨q1, q2, q3, h1, h2, fun _ => h3 (.inl (by omega))⟩
theorem nearOut {fs : List Fl} {ws : Ws} (hv : ValidC fs ws) : ∀ d i, i + d = ws.length → ∀ k a b c, d * 100 + 10 < k → GoodN (impl_nearest__impl_NearestWords_1.l0 k (ws.length : Int) a b c (ws.length : Int) (i : Int) (ws.map (seeC fs))) (spec_NearestWords.l0 k (ws.length : Int) a b c (i : Int) fs ws) (0 ≤ c ∨ i + 2 ≤ ws.length) := by
  have hn := hv.nw
  intro d
  induction d with
  | zero =>
    intro i hi k a b c hk
    obtain ⟨k, rfl⟩ : ∃ m, k = m + 1 := ⟨k - 1, by omega⟩
    refine ⟨a, b, c, ?_, ?_, fun hp => by omega⟩
    · simp only [impl_nearest__impl_NearestWords_1.l0]
      rw [if_neg (by omega)]
    · simp only [spec_NearestWords.l0]
      rw [if_neg (by omega)]
  | succ d ih =>
    intro i hi k a b c hk
    obtain ⟨k, rfl⟩ : ∃ m, k = m + 1 := ⟨k - 1, by omega⟩
    have hi' : i < ws.length := by omega
    have hwi : wrap64 ((i : Int) + 1) = ((i + 1 : Nat) : Int) := by rw [w64 (by omega) (by omega)]; rfl
    obtain ⟨q1, q2, q3, h1, h2, h3⟩ := nearIn hv hi' (K := d * 100 + 10) (fun k a b c hk => by
      obtain ⟨q1, q2, q3, g1, g2, g3⟩ := ih (i + 1) (by omega) k a b c hk
      exact ⟨q1, q2, q3, g1, g2, fun hp => g3 (by omega)⟩) (ws.length - (i + 1)) (i + 1) (by omega) k a b c (by omega)
    refine ⟨q1, q2, q3, ?_, ?_, fun hp => h3 (by omega)⟩
    · simp only [impl_nearest__impl_NearestWords_1.l0]
      rw [if_pos (by omega), hwi, h1]
    · simp only [spec_NearestWords.l0]
      rw [if_pos (by omega), specSights_eq hv hi', hwi]
      simp only [Option.bind_some]
      rw [h2]
theorem near_both {k : Nat} {fs : List Fl} {ws : Ws} (hl : ws.length ≤ 1048576) (hi : ∀ x ∈ ws, x.length ≤ 1048576) (hw : ∀ x ∈ ws, ∀ c ∈ x, 0 ≤ c ∧ c ≤ 255) (hf : ∀ f ∈ fs, ∀ c ∈ arrL68 f, 0 ≤ c) (hk : 2200002 < k) : ∃ r, spec_NearestWords.f k fs ws = some r ∧ impl_NearestWords.f k fs ws = some r := by
  unfold spec_NearestWords.f impl_NearestWords.f
  rw [specOk_eq hl hi (by omega), implOk_eq hw]
  simp only [Option.bind_some]
  cases hok : okC fs ws
  · exact ⟨(0, 0, 0, 1), rfl, rfl⟩
  · have hv := validC hok hw hf
    have hn := hv.nw
    have hsee : ∀ x ∈ ws, impl_Code_sights.f k fs ws x = some (seeC fs x) := fun x hx => implSights_eq hv ws hx (by omega)
    have hall : ws.all (fun x => (impl_Code_sights.f k fs ws x).isSome) = true := by
      rw [List.all_eq_true]
      intro x hx
      rw [hsee x hx]
      rfl
    have hmap : ws.map (impl_NearestWords.see k fs ws) = ws.map (seeC fs) := List.map_congr_left fun x hx => by
      unfold impl_NearestWords.see
      rw [hsee x hx]
      rfl
    have hcnd : ws.length ≤ 1000000 ∧ ws.all (fun x => (impl_Code_sights.f k fs ws x).isSome) = true := ⟨by omega, hall⟩
    rw [if_pos rfl, if_pos rfl, hmap, if_pos hcnd]
    unfold impl_nearest__impl_NearestWords_1.f
    obtain ⟨q1, q2, q3, h1, h2, h3⟩ := nearOut hv ws.length 0 (by omega) k 0 0 (-1) (by omega)
    have h1 : impl_nearest__impl_NearestWords_1.l0 k (ws.length : Int) 0 0 (-1) (ws.length : Int) 0 (ws.map (seeC fs)) = some (q1, q2, q3, decide (q3 ≥ 0)) := h1
    have h2 : spec_NearestWords.l0 k (ws.length : Int) 0 0 (-1) 0 fs ws = some (q1, q2, q3, 0) := h2
    by_cases hn2 : (ws.length : Int) < 2
    · rw [if_pos hn2]
      refine ⟨(0, 0, 0, 6), rfl, ?_⟩
      have hs : impl_nearest__impl_NearestWords_1.l0 k (ws.length : Int) 0 0 (-1) (ws.length : Int) 0 (ws.map (seeC fs)) = some (0, 0, -1, false) := by
        obtain ⟨k, rfl⟩ : ∃ m, k = m + 3 := ⟨k - 3, by omega⟩
        by_cases h0 : (ws.length : Int) = 0
        · rw [h0]
          simp only [impl_nearest__impl_NearestWords_1.l0]
          rw [if_neg (by decide)]
          rfl
        · have h1 : (ws.length : Int) = 1 := by omega
          rw [h1]
          simp only [impl_nearest__impl_NearestWords_1.l0, impl_nearest__impl_NearestWords_1.l1]
          rw [if_pos (by decide), w64 (n := 0 + 1) (by decide) (by decide), if_neg (by decide), if_neg (by decide)]
          rfl
      rw [hs]
      rfl
    · rw [if_neg hn2, h1, h2]
      refine ⟨_, rfl, ?_⟩
      simp only [Option.bind_some]
      rw [decide_eq_true (h3 (by omega)), if_pos rfl]
end Go.Proofs.Ytgfknljhogfeaaa.G.Pure
end

section
namespace Go.Proofs.Ytgfknljhogfeaaa.G.Pure
open Go.RowKit Go.Proofs.Ytgfknljhogfeaaa.G Go.Proofs.YtgfknljhogfeaaaW.PrintWords Go.Proofs.YtgfknljhogfeaaaW.PrintLast Go.Proofs.YtgfknljhogfeaaaW.PrintMore
set_option linter.unusedVariables false
set_option linter.unusedSimpArgs false
theorem FnExactNearestWords (l0_0 : List S67) (l0_1 : List (List Int)) (h00 : l0_0.length ≤ 9223372036854775807) (h01 : (∀ x ∈ l0_0, (Lit.int .u8 x.f0).wf = true ∧ (Lit.int .u8 x.f1).wf = true ∧ (Lit.int .u8 x.f2).wf = true ∧ (Lit.int .u8 x.f3).wf = true ∧ (Lit.int .u8 x.f4).wf = true ∧ (Lit.int .u8 x.f5).wf = true ∧ (Lit.int .u8 x.f6).wf = true ∧ (Lit.int .u8 x.f7).wf = true ∧ (Lit.int .u8 x.f8).wf = true ∧ (Lit.int .u8 x.f9).wf = true ∧ (Lit.int .u8 x.f10).wf = true ∧ (Lit.int .u8 x.f11).wf = true ∧ (Lit.int .u8 x.f12).wf = true ∧ (Lit.int .u8 x.f13).wf = true ∧ (Lit.int .u8 x.f14).wf = true ∧ (Lit.int .u8 x.f15).wf = true ∧ (Lit.int .u8 x.f16).wf = true ∧ (Lit.int .u8 x.f17).wf = true ∧ (Lit.int .u8 x.f18).wf = true ∧ (Lit.int .u8 x.f19).wf = true ∧ (Lit.int .u8 x.f20).wf = true ∧ (Lit.int .u8 x.f21).wf = true ∧ (Lit.int .u8 x.f22).wf = true ∧ (Lit.int .u8 x.f23).wf = true)) (h10 : l0_1.length ≤ 9223372036854775807) (h11 : (∀ x ∈ l0_1, (x.length ≤ 9223372036854775807 ∧ ∀ x_ ∈ x, (Lit.int .u8 x_).wf = true))) : ∃ k, laws_FnExactNearestWords.f k l0_0 l0_1 = some true := by
  obtain ⟨k, hk⟩ : ∃ k, 3000000 < k := ⟨_, Nat.lt_succ_self _⟩
  refine ⟨k + 1, ?_⟩
  unfold laws_FnExactNearestWords.f
  obtain ⟨n, hn, hc⟩ := szCode_cases (k := k + 1) l0_0 l0_1 h00 h10 (fun x hx => (h11 x hx).1) (by omega)
  rw [hn]
  simp only [Option.bind_some]
  rcases hc with hc | ⟨h1, h2, h3, h4, h5⟩
  · rw [if_pos hc]
  · rw [if_neg (by omega)]
    have hw := wordsW h11
    have hf := flagsW h01
    have e1 := toCode_eq (k := k + 1) h3 h4 h5 (by omega)
    have e1' := toCode_eq (k := k) h3 h4 h5 (by omega)
    have q1 := eqCode_self (k := k) (fs := l0_0.map laws_toFlagS.cv) h4 h5 (by omega)
    obtain ⟨r, hs1, hi1⟩ := near_both (k := k + 1) (fs := l0_0.map laws_toFlagS.cv) h4 h5 hw hf (by omega)
    generalize l0_0.map laws_toFlagS.cv = fs at *
    simp [laws_FnExactNearestWords.j0, e1, e1', q1, hs1, hi1]
end Go.Proofs.Ytgfknljhogfeaaa.G.Pure
end
