/- The law's functions, their contracts, and the plain lemmas: texts of this claim, laid together. -/
import Derived.Deep.Slices
import Derived.Deep.Fields
import Derived.ChangeSame
import Derived.OpenShut
import Derived.Test.YtcoepebmmgcplaaMFnExactAgreedLog0
import Derived.Test.YtcoepebmmgcplaaMFnExactAgreedLog1
import Derived.Test.YtcoepebmmgcplaaMFnExactAgreedLog2
section
namespace Go.Proofs.Ytcoepebmmgcplaa.G
open Go.RowKit Go.Proofs.YtcoepebmmgcplaaW.PrintWords Go.Proofs.YtcoepebmmgcplaaW.PrintLast Go.Proofs.YtcoepebmmgcplaaW.PrintMore
attribute [local go_sem] max2_int min2_int max_two min_two max_three min_three max_four min_four
set_option linter.unusedVariables false
set_option linter.unusedSimpArgs false
mutual
def laws_FnExactAgreedLog.j0 : Nat → List (List (S57)) → Int → List (S40) → Int → List (List (S40)) → List (S40) → Int → Bool → Option (Bool)
 | 0,_,_,_,_,_,_,_,_ => none
 | k + 1,x0,x1,x6,x7,x8,x9,x10,x44 => if x44 = true then (some false) else ((laws_toLogS.f k x0).bind fun t117 => ((laws_eqLogS.f k x8 t117).bind fun t120 => (if t120 = true then ((laws_markLogS.f k x8 1).bind fun bt121 => (if bt121.1 < 0 then (laws_FnExactAgreedLog.j1 k x0 x1 x6 x7 x9 true) else ((laws_eqLog.f k x9 x6).bind fun t123 => (if t123 = true then (laws_FnExactAgreedLog.j1 k x0 x1 x6 x7 x9 (x10 != x7)) else (laws_FnExactAgreedLog.j1 k x0 x1 x6 x7 x9 true))))) else (some false))))
def laws_FnExactAgreedLog.j1 : Nat → List (List (S57)) → Int → List (S40) → Int → List (S40) → Bool → Option (Bool)
 | 0,_,_,_,_,_,_ => none
 | k + 1,x0,x1,x6,x7,x9,x65 => if x65 = true then (some false) else ((laws_markLog.f k x9 1).bind fun bt124 => ((laws_heldLog.f k bt124.2 1).bind fun t126 => (if t126 < 0 then (some false) else (if t126 = bt124.1 then ((laws_toLogS.f k x0).bind fun t127 => ((impl_AgreedLog.f k t127 x1).bind fun bt130 => ((laws_eqLog.f k bt130.1 x6).bind fun t134 => (if t134 = true then (laws_FnExactAgreedLog.j2 k bt124.2 bt124.1 (bt130.2 != x7)) else (laws_FnExactAgreedLog.j2 k bt124.2 bt124.1 true))))) else (some false)))))
def laws_FnExactAgreedLog.j2 : Nat → List (S40) → Int → Bool → Option (Bool)
 | 0,_,_,_ => none
 | k + 1,x9,x12,x92 => if x92 = true then (some false) else ((laws_heldLog.f k x9 1).bind fun t135 => (if t135 < 0 then (some false) else (if t135 = x12 then (some true) else (some false))))
end
def laws_FnExactAgreedLog.f (k : Nat) (l0 : List (List (S57))) (a1 : Int) : Option (Bool) := (laws_szLogS.f k l0 1048576).bind fun t101 => (if t101 < 0 then (some true) else ((laws_toLogS.f k l0).bind fun t102 => ((spec_AgreedLog.f k t102 a1).bind fun bt105 => ((laws_toLogS.f k l0).bind fun t109 => ((impl_AgreedLog.f k t109 a1).bind fun bt112 => ((laws_eqLog.f k bt112.1 bt105.1).bind fun t116 => (if t116 = true then (laws_FnExactAgreedLog.j0 k l0 a1 bt105.1 bt105.2 t109 bt112.1 bt112.2 (bt112.2 != bt105.2)) else (laws_FnExactAgreedLog.j0 k l0 a1 bt105.1 bt105.2 t109 bt112.1 bt112.2 true))))))))
set_option maxHeartbeats 8000000 in
set_option maxRecDepth 100000 in
theorem laws_FnExactAgreedLog.calls (k : Nat) (A0 : Option Addr) (c0 : Nat) (l0 : List (List (S57))) (a1 : Int) (r : Bool) (w : World) (hr0 : Kd.C (Kd.slice 57 k57) w A0 l0.length l0) (hc0 : l0.length ≤ c0) (h : laws_FnExactAgreedLog.f k l0 a1 = some r) :
  Calls Try.prog 3 #[.slice A0 l0.length c0,.int .i64 a1] w fun e w' => e = .returned (.bool r) ∧ Below w.heap.size w w' := by
 have HR0 := Aside0.mk hr0;have HC0 := Aside0.mk hc0;clear hr0 hc0;have HB := Aside0.mk (Below.refl w.heap.size w);have H : ((laws_szLogS.f k l0 1048576).bind fun t101 => (if t101 < 0 then (some true) else ((laws_toLogS.f k l0).bind fun t102 => ((spec_AgreedLog.f k t102 a1).bind fun bt105 => ((laws_toLogS.f k l0).bind fun t109 => ((impl_AgreedLog.f k t109 a1).bind fun bt112 => ((laws_eqLog.f k bt112.1 bt105.1).bind fun t116 => (if t116 = true then (laws_FnExactAgreedLog.j0 k l0 a1 bt105.1 bt105.2 t109 bt112.1 bt112.2 (bt112.2 != bt105.2)) else (laws_FnExactAgreedLog.j0 k l0 a1 bt105.1 bt105.2 t109 bt112.1 bt112.2 true))))))))) = some r := h;clear h;replace H := Option.bind_eq_some_iff.mp H;obtain ⟨t101,A30,H⟩ := H;replace H : (if t101 < 0 then (some true) else ((laws_toLogS.f k l0).bind fun t102 => ((spec_AgreedLog.f k t102 a1).bind fun bt105 => ((laws_toLogS.f k l0).bind fun t109 => ((impl_AgreedLog.f k t109 a1).bind fun bt112 => ((laws_eqLog.f k bt112.1 bt105.1).bind fun t116 => (if t116 = true then (laws_FnExactAgreedLog.j0 k l0 a1 bt105.1 bt105.2 t109 bt112.1 bt112.2 (bt112.2 != bt105.2)) else (laws_FnExactAgreedLog.j0 k l0 a1 bt105.1 bt105.2 t109 bt112.1 bt112.2 true)))))))) = some r := H;have A3 := Aside0.mk A30;clear A30
 by_cases c4 : t101 < 0
 ·rw [if_pos c4] at H;have c4b0 : decide (t101 < 0) = true := decide_eq_true c4;clear c4;obtain rfl := Option.some.inj H
  go_enter Try.func3,Try.ntmps3
  go_wp2_with (first | ((with_reducible refine gate_callee (f := 4) rfl ?_);refine goesL_ (some 18) rfl rfl Try.func4 (by kernel_rfl) rfl #[.slice A0 l0.length c0,.int .i64 1048576] rfl (by (try simp only [List.map_toArray,List.map_cons,List.map_nil]);first | done | rfl | (simp only [List.length_drop,List.length_take];rfl)) ?_;(with_reducible refine (laws_szLogS.calls k _ _ l0 1048576 t101 _ ?side1 ?side2 A3.out).mono ?_);(case side1 => repeat (first | exact HR0.out | (with_reducible refine Kd.C_alloc ?_ _) | (with_reducible refine Kd.C_drewN ?_ _) | (with_reducible refine Kd.C_drew ?_)));(case side2 => exact HC0.out);rintro e w' ⟨rfl,⟨nd,rfl⟩⟩;refine ⟨_,rfl,?_⟩))
  go_ret
  exact ⟨by first | rfl | (simp [errW_none,errW_some,IntKind.wrap_i64,wrap64];done) | (simp [errW_none,errW_some] <;> rfl) | (simp [*,errW_none,errW_some] <;> rfl),by first | exact below_step HBO.out (by repeat (first | (with_reducible first | exact HB.out | apply below_alloc | apply pw_below_drewN | apply below_drew1) | exact HB.out)) | (repeat (first | (with_reducible first | exact HB.out | apply below_alloc | apply pw_below_drewN | apply below_drew1) | exact HB.out))⟩
 ·rw [if_neg c4] at H;have c4b0 : decide (t101 < 0) = false := decide_eq_false c4;clear c4;replace H := Option.bind_eq_some_iff.mp H;obtain ⟨t102,A50,H⟩ := H;replace H : ((spec_AgreedLog.f k t102 a1).bind fun bt105 => ((laws_toLogS.f k l0).bind fun t109 => ((impl_AgreedLog.f k t109 a1).bind fun bt112 => ((laws_eqLog.f k bt112.1 bt105.1).bind fun t116 => (if t116 = true then (laws_FnExactAgreedLog.j0 k l0 a1 bt105.1 bt105.2 t109 bt112.1 bt112.2 (bt112.2 != bt105.2)) else (laws_FnExactAgreedLog.j0 k l0 a1 bt105.1 bt105.2 t109 bt112.1 bt112.2 true)))))) = some r := H;have A5 := Aside0.mk A50;clear A50;replace H := Option.bind_eq_some_iff.mp H;obtain ⟨⟨t105,t106⟩,A60,H⟩ := H;replace H : ((laws_toLogS.f k l0).bind fun t109 => ((impl_AgreedLog.f k t109 a1).bind fun bt112 => ((laws_eqLog.f k bt112.1 t105).bind fun t116 => (if t116 = true then (laws_FnExactAgreedLog.j0 k l0 a1 t105 t106 t109 bt112.1 bt112.2 (bt112.2 != t106)) else (laws_FnExactAgreedLog.j0 k l0 a1 t105 t106 t109 bt112.1 bt112.2 true))))) = some r := H;have A6 := Aside0.mk A60;clear A60;replace H := Option.bind_eq_some_iff.mp H;obtain ⟨t109,A70,H⟩ := H;replace H : ((impl_AgreedLog.f k t109 a1).bind fun bt112 => ((laws_eqLog.f k bt112.1 t105).bind fun t116 => (if t116 = true then (laws_FnExactAgreedLog.j0 k l0 a1 t105 t106 t109 bt112.1 bt112.2 (bt112.2 != t106)) else (laws_FnExactAgreedLog.j0 k l0 a1 t105 t106 t109 bt112.1 bt112.2 true)))) = some r := H;have A7 := Aside0.mk A70;clear A70;replace H := Option.bind_eq_some_iff.mp H;obtain ⟨⟨t112,t113⟩,A80,H⟩ := H;replace H : ((laws_eqLog.f k t112 t105).bind fun t116 => (if t116 = true then (laws_FnExactAgreedLog.j0 k l0 a1 t105 t106 t109 t112 t113 (t113 != t106)) else (laws_FnExactAgreedLog.j0 k l0 a1 t105 t106 t109 t112 t113 true))) = some r := H;have A8 := Aside0.mk A80;clear A80;have HC9 := Aside0.mk H;clear H
  go_enter Try.func3,Try.ntmps3
  go_upto_region 8 with (first | ((with_reducible refine gate_callee (f := 4) rfl ?_);refine goesL_ (some 18) rfl rfl Try.func4 (by kernel_rfl) rfl #[.slice A0 l0.length c0,.int .i64 1048576] rfl (by (try simp only [List.map_toArray,List.map_cons,List.map_nil]);first | done | rfl | (simp only [List.length_drop,List.length_take];rfl)) ?_;(with_reducible refine (laws_szLogS.calls k _ _ l0 1048576 t101 _ ?side1 ?side2 A3.out).mono ?_);(case side1 => repeat (first | exact HR0.out | (with_reducible refine Kd.C_alloc ?_ _) | (with_reducible refine Kd.C_drewN ?_ _) | (with_reducible refine Kd.C_drew ?_)));(case side2 => exact HC0.out);rintro e w' ⟨rfl,⟨nd,rfl⟩⟩;refine ⟨_,rfl,?_⟩) | ((with_reducible refine gate_callee (f := 6) rfl ?_);refine goesL_ (some 23) rfl rfl Try.func6 (by kernel_rfl) rfl #[.slice A0 l0.length c0] rfl (by (try simp only [List.map_toArray,List.map_cons,List.map_nil]);first | done | rfl | (simp only [List.length_drop,List.length_take];rfl)) ?_;(with_reducible refine (laws_toLogS.calls k _ _ l0 t102 _ ?side1 ?side2 A5.out).mono ?_);(case side1 => repeat (first | exact HR0.out | (with_reducible refine Kd.C_alloc ?_ _) | (with_reducible refine Kd.C_drewN ?_ _) | (with_reducible refine Kd.C_drew ?_)));(case side2 => exact HC0.out);rintro e w10 ⟨v103,rfl,ho0,hb⟩;refine ⟨_,rfl,?_⟩;have n0_ := Aside0.mk (Kd.S_lower ho0 (below_size (by repeat (first | (with_reducible first | exact HB.out | apply below_alloc | apply pw_below_drewN | apply below_drew1) | exact HB.out))));have n1_ := Aside0.mk (below_step (by repeat (first | (with_reducible first | exact HB.out | apply below_alloc | apply pw_below_drewN | apply below_drew1) | exact HB.out)) hb);clear HB;have HO104 := n0_;have HB := n1_;clear n0_ n1_;(try clear hb);(try clear hb2);(try clear hk);(try clear hi);(try clear ho0);obtain ⟨Ao11,co11,eo11⟩ := Kd.S_slice HO104.out;subst eo11) | ((with_reducible refine gate_callee (f := 5) rfl ?_);refine goesL_ (some 25) rfl rfl Try.func5 (by kernel_rfl) rfl #[.slice Ao11 t102.length co11,.int .i64 a1] rfl (by (try simp only [List.map_toArray,List.map_cons,List.map_nil]);first | done | rfl | (simp only [List.length_drop,List.length_take];rfl)) ?_;(with_reducible refine (spec_AgreedLog.calls k _ _ t102 a1 t105 t106 _ ?side1 ?side2 A6.out).mono ?_);(case side1 => repeat (first | exact (Kd.S_reads' HO104.out).2.2 | (with_reducible refine Kd.C_alloc ?_ _) | (with_reducible refine Kd.C_drewN ?_ _) | (with_reducible refine Kd.C_drew ?_)));(case side2 => exact (Kd.S_reads' HO104.out).2.1);rintro e w12 ⟨vc_,rfl,ho0,hb⟩;refine ⟨_,rfl,?_⟩;obtain ⟨A900,c900,ec_,hcc_,hrc_⟩ := Kd.R_reads ho0;subst ec_;have HR900 := Aside0.mk hrc_;have HC900 := Aside0.mk hcc_;clear ho0 hrc_ hcc_;have HBO := Aside0.mk (below_step (by repeat (first | (with_reducible first | exact HB.out | apply below_alloc | apply pw_below_drewN | apply below_drew1) | exact HB.out)) hb);have n_ := Aside0.mk (Kd.C_below HR0.out HBO.out);clear HR0;have HR0 := n_;clear n_;(try clear HO104);clear HB;(try clear hb);rename World => w;have HB := Aside0.mk (Below.refl w.heap.size w)) | ((with_reducible refine gate_callee (f := 6) rfl ?_);refine goesL_ (some 29) rfl rfl Try.func6 (by kernel_rfl) rfl #[.slice A0 l0.length c0] rfl (by (try simp only [List.map_toArray,List.map_cons,List.map_nil]);first | done | rfl | (simp only [List.length_drop,List.length_take];rfl)) ?_;(with_reducible refine (laws_toLogS.calls k _ _ l0 t109 _ ?side1 ?side2 A7.out).mono ?_);(case side1 => repeat (first | exact (Kd.C_below HR0.out HB.out) | (with_reducible refine Kd.C_alloc ?_ _) | (with_reducible refine Kd.C_drewN ?_ _) | (with_reducible refine Kd.C_drew ?_)));(case side2 => exact HC0.out);rintro e w13 ⟨v110,rfl,ho0,hb⟩;refine ⟨_,rfl,?_⟩;have n0_ := Aside0.mk (Kd.S_lower ho0 (below_size (by repeat (first | (with_reducible first | exact HB.out | apply below_alloc | apply pw_below_drewN | apply below_drew1) | exact HB.out))));have n1_ := Aside0.mk (below_step (by repeat (first | (with_reducible first | exact HB.out | apply below_alloc | apply pw_below_drewN | apply below_drew1) | exact HB.out)) hb);clear HB;have HO111 := n0_;have HB := n1_;clear n0_ n1_;(try clear hb);(try clear hb2);(try clear hk);(try clear hi);(try clear ho0);obtain ⟨Ao14,co14,eo14⟩ := Kd.S_slice HO111.out;subst eo14) | ((with_reducible refine gate_callee (f := 7) rfl ?_);refine goesL_ (some 33) rfl rfl Try.func7 (by kernel_rfl) rfl #[.slice Ao14 t109.length co14,.int .i64 a1] rfl (by (try simp only [List.map_toArray,List.map_cons,List.map_nil]);first | done | rfl | (simp only [List.length_drop,List.length_take];rfl)) ?_;(with_reducible refine (impl_AgreedLog.calls k _ _ t109 a1 t112 t113 _ ?side1 ?side2 A8.out).mono ?_);(case side1 => repeat (first | exact (Kd.S_reads' HO111.out).2.2 | (with_reducible refine Kd.C_alloc ?_ _) | (with_reducible refine Kd.C_drewN ?_ _) | (with_reducible refine Kd.C_drew ?_)));(case side2 => exact (Kd.S_reads' HO111.out).2.1);rintro e w15 ⟨v114,rfl,ho0,hb⟩;refine ⟨_,rfl,?_⟩;have n0_ := Aside0.mk (Kd.S_elder' (by (with_reducible repeat (first | apply Kd.S_alloc | apply Kd.S_drewN | apply Kd.S_drew));exact HO111.out) (Kd.R_base ho0) hb);have n1_ := Aside0.mk (Kd.R_lower ho0 (below_size (by repeat (first | (with_reducible first | exact HB.out | apply below_alloc | apply pw_below_drewN | apply below_drew1) | exact HB.out))));have n2_ := Aside0.mk (below_step (by repeat (first | (with_reducible first | exact HB.out | apply below_alloc | apply pw_below_drewN | apply below_drew1) | exact HB.out)) hb);clear HO111;clear HB;have HO111 := n0_;have HO115 := n1_;have HB := n2_;clear n0_ n1_ n2_;(try clear hb);(try clear hb2);(try clear hk);(try clear hi);(try clear ho0)))
  (try simp only [Act.put,List.setIfInBounds_toArray,List.set_cons_zero,List.set_cons_succ])
  go_cut [44] (fun v44 wc => ∃ (kq : Nat) (x44_8 : Bool),v44 = .bool x44_8 ∧ Aside0 (laws_FnExactAgreedLog.j0 kq l0 a1 t105 t106 t109 t112 t113 x44_8 = some r) ∧ Aside0 (kq ≤ k) ∧ Aside0 (Kd.S (Kd.slice 40 k40) 25 wc w.heap.size (fun k_ => some k_ ≠ (v114 : Value).ownBlock) (.slice Ao14 t109.length co14) t109) ∧ Aside0 (Kd.R k40 40 wc w.heap.size (fun _ => True) v114 t112) ∧ Aside0 (Below w.heap.size w wc))
  case first =>
   have H := HC9.out;clear HC9;replace H := Option.bind_eq_some_iff.mp H;obtain ⟨t116,A160,H⟩ := H;replace H : (if t116 = true then (laws_FnExactAgreedLog.j0 k l0 a1 t105 t106 t109 t112 t113 (t113 != t106)) else (laws_FnExactAgreedLog.j0 k l0 a1 t105 t106 t109 t112 t113 true)) = some r := H;have A16 := Aside0.mk A160;clear A160
   by_cases c17 : t116 = true
   ·subst c17
    have H1 : (laws_FnExactAgreedLog.j0 k l0 a1 t105 t106 t109 t112 t113 (t113 != t106)) = some r := by rw [if_pos rfl] at H;exact H
    clear H;have H := H1;clear H1;have H' := Aside0.mk H;clear H;obtain ⟨Ao18,co18,eo18⟩ := Kd.R_slice HO115.out;subst eo18
    go_wp2_with (first | ((with_reducible refine gate_callee (f := 8) rfl ?_);refine goesL_ (some 38) rfl rfl Try.func8 (by kernel_rfl) rfl #[.slice Ao18 t112.length co18,.slice A900 t105.length c900] rfl (by (try simp only [List.map_toArray,List.map_cons,List.map_nil]);first | done | rfl | (simp only [List.length_drop,List.length_take];rfl)) ?_;(with_reducible refine (laws_eqLog.calls k _ _ t112 _ _ t105 true _ ?side1 ?side2 ?side3 ?side4 A16.out).mono ?_);(case side1 => repeat (first | exact (Kd.R_reads' HO115.out).2.2 | (with_reducible refine Kd.C_alloc ?_ _) | (with_reducible refine Kd.C_drewN ?_ _) | (with_reducible refine Kd.C_drew ?_)));(case side2 => exact (Kd.R_reads' HO115.out).2.1);(case side3 => repeat (first | exact (Kd.C_below HR900.out HB.out) | (with_reducible refine Kd.C_alloc ?_ _) | (with_reducible refine Kd.C_drewN ?_ _) | (with_reducible refine Kd.C_drew ?_)));(case side4 => exact HC900.out);rintro e w19 ⟨rfl,hb⟩;refine ⟨_,rfl,?_⟩;have n0_ := Aside0.mk (Kd.S_below (by (with_reducible repeat (first | apply Kd.S_alloc | apply Kd.S_drewN | apply Kd.S_drew));exact HO111.out) hb);have n1_ := Aside0.mk (Kd.R_below (by (with_reducible repeat (first | apply Kd.R_alloc | apply Kd.R_drewN | apply Kd.R_drew));exact HO115.out) hb);have n2_ := Aside0.mk (below_step (by repeat (first | (with_reducible first | exact HB.out | apply below_alloc | apply pw_below_drewN | apply below_drew1) | exact HB.out)) hb);clear HO111;clear HO115;clear HB;have HO111 := n0_;have HO115 := n1_;have HB := n2_;clear n0_ n1_ n2_;(try clear hb);(try clear hb2);(try clear hk);(try clear hi)))
    go_meet
    case rel => exact ⟨_,((t113 != t106)),(by first | rfl | (simp only [IntKind.wrap_i64,wrap64];done) | (simp;done) | (simp [*];done)),H',⟨by first | omega | exact Nat.le_refl _⟩,⟨by (with_reducible repeat (first | apply Kd.S_alloc | apply Kd.S_drewN | apply Kd.S_drew));exact Kd.S_mono HO111.out (fun _ hk => hk.2)⟩,⟨by (with_reducible repeat (first | apply Kd.R_alloc | apply Kd.R_drewN | apply Kd.R_drew));exact HO115.out⟩,⟨by repeat (first | (with_reducible first | exact HB.out | apply below_alloc | apply pw_below_drewN | apply below_drew1) | exact HB.out)⟩⟩
   ·replace c17 := Bool.eq_false_iff.mpr c17;subst c17
    have H1 : (laws_FnExactAgreedLog.j0 k l0 a1 t105 t106 t109 t112 t113 true) = some r := by rw [if_neg (show ¬ (false = true) by decide)] at H;exact H
    clear H;have H := H1;clear H1;have H' := Aside0.mk H;clear H;obtain ⟨Ao20,co20,eo20⟩ := Kd.R_slice HO115.out;subst eo20
    go_wp2_with (first | ((with_reducible refine gate_callee (f := 8) rfl ?_);refine goesL_ (some 38) rfl rfl Try.func8 (by kernel_rfl) rfl #[.slice Ao20 t112.length co20,.slice A900 t105.length c900] rfl (by (try simp only [List.map_toArray,List.map_cons,List.map_nil]);first | done | rfl | (simp only [List.length_drop,List.length_take];rfl)) ?_;(with_reducible refine (laws_eqLog.calls k _ _ t112 _ _ t105 false _ ?side1 ?side2 ?side3 ?side4 A16.out).mono ?_);(case side1 => repeat (first | exact (Kd.R_reads' HO115.out).2.2 | (with_reducible refine Kd.C_alloc ?_ _) | (with_reducible refine Kd.C_drewN ?_ _) | (with_reducible refine Kd.C_drew ?_)));(case side2 => exact (Kd.R_reads' HO115.out).2.1);(case side3 => repeat (first | exact (Kd.C_below HR900.out HB.out) | (with_reducible refine Kd.C_alloc ?_ _) | (with_reducible refine Kd.C_drewN ?_ _) | (with_reducible refine Kd.C_drew ?_)));(case side4 => exact HC900.out);rintro e w21 ⟨rfl,hb⟩;refine ⟨_,rfl,?_⟩;have n0_ := Aside0.mk (Kd.S_below (by (with_reducible repeat (first | apply Kd.S_alloc | apply Kd.S_drewN | apply Kd.S_drew));exact HO111.out) hb);have n1_ := Aside0.mk (Kd.R_below (by (with_reducible repeat (first | apply Kd.R_alloc | apply Kd.R_drewN | apply Kd.R_drew));exact HO115.out) hb);have n2_ := Aside0.mk (below_step (by repeat (first | (with_reducible first | exact HB.out | apply below_alloc | apply pw_below_drewN | apply below_drew1) | exact HB.out)) hb);clear HO111;clear HO115;clear HB;have HO111 := n0_;have HO115 := n1_;have HB := n2_;clear n0_ n1_ n2_;(try clear hb);(try clear hb2);(try clear hk);(try clear hi)))
    go_meet
    case rel => exact ⟨_,(true),(by first | rfl | (simp only [IntKind.wrap_i64,wrap64];done) | (simp;done) | (simp [*];done)),H',⟨by first | omega | exact Nat.le_refl _⟩,⟨by (with_reducible repeat (first | apply Kd.S_alloc | apply Kd.S_drewN | apply Kd.S_drew));exact Kd.S_mono HO111.out (fun _ hk => hk.2)⟩,⟨by (with_reducible repeat (first | apply Kd.R_alloc | apply Kd.R_drewN | apply Kd.R_drew));exact HO115.out⟩,⟨by repeat (first | (with_reducible first | exact HB.out | apply below_alloc | apply pw_below_drewN | apply below_drew1) | exact HB.out)⟩⟩
  case rest =>
   clear HC9;(try clear c1);(try clear p2);(try clear c3);(try clear c4);(try clear c4b0);(try clear c5);(try clear c6);(try clear c7);(try clear c8);(try clear c9);(try clear c17);obtain ⟨kq,x44_8,rfl,HA,HJ8,HO_8,HO_9,HB⟩ := hcut
   cases kq with
   | zero => exact absurd HA.out (by simp [laws_FnExactAgreedLog.j0])
   | succ kj8 =>
    have H := HA.out;clear HA;simp only [laws_FnExactAgreedLog.j0] at H
    by_cases c22 : x44_8 = true
    ·subst c22
     have H1 : (some false) = some r := by rw [if_pos rfl] at H;exact H
     clear H;have H := H1;clear H1;obtain rfl := Option.some.inj H
     go_wp2
     go_ret
     exact ⟨by first | rfl | (simp [errW_none,errW_some,IntKind.wrap_i64,wrap64];done) | (simp [errW_none,errW_some] <;> rfl) | (simp [*,errW_none,errW_some] <;> rfl),by first | exact below_step HBO.out (by repeat (first | (with_reducible first | exact HB.out | apply below_alloc | apply pw_below_drewN | apply below_drew1) | exact HB.out)) | (repeat (first | (with_reducible first | exact HB.out | apply below_alloc | apply pw_below_drewN | apply below_drew1) | exact HB.out))⟩
    ·replace c22 := Bool.eq_false_iff.mpr c22;subst c22
     have H1 : ((laws_toLogS.f kj8 l0).bind fun t117 => ((laws_eqLogS.f kj8 t109 t117).bind fun t120 => (if t120 = true then ((laws_markLogS.f kj8 t109 1).bind fun bt121 => (if bt121.1 < 0 then (laws_FnExactAgreedLog.j1 kj8 l0 a1 t105 t106 t112 true) else ((laws_eqLog.f kj8 t112 t105).bind fun t123 => (if t123 = true then (laws_FnExactAgreedLog.j1 kj8 l0 a1 t105 t106 t112 (t113 != t106)) else (laws_FnExactAgreedLog.j1 kj8 l0 a1 t105 t106 t112 true))))) else (some false)))) = some r := by rw [if_neg (show ¬ (false = true) by decide)] at H;exact H
     clear H;have H := H1;clear H1;replace H := Option.bind_eq_some_iff.mp H;obtain ⟨t117,A230,H⟩ := H;replace H : ((laws_eqLogS.f kj8 t109 t117).bind fun t120 => (if t120 = true then ((laws_markLogS.f kj8 t109 1).bind fun bt121 => (if bt121.1 < 0 then (laws_FnExactAgreedLog.j1 kj8 l0 a1 t105 t106 t112 true) else ((laws_eqLog.f kj8 t112 t105).bind fun t123 => (if t123 = true then (laws_FnExactAgreedLog.j1 kj8 l0 a1 t105 t106 t112 (t113 != t106)) else (laws_FnExactAgreedLog.j1 kj8 l0 a1 t105 t106 t112 true))))) else (some false))) = some r := H;have A23 := Aside0.mk A230;clear A230;replace H := Option.bind_eq_some_iff.mp H;obtain ⟨t120,A240,H⟩ := H;replace H : (if t120 = true then ((laws_markLogS.f kj8 t109 1).bind fun bt121 => (if bt121.1 < 0 then (laws_FnExactAgreedLog.j1 kj8 l0 a1 t105 t106 t112 true) else ((laws_eqLog.f kj8 t112 t105).bind fun t123 => (if t123 = true then (laws_FnExactAgreedLog.j1 kj8 l0 a1 t105 t106 t112 (t113 != t106)) else (laws_FnExactAgreedLog.j1 kj8 l0 a1 t105 t106 t112 true))))) else (some false)) = some r := H;have A24 := Aside0.mk A240;clear A240
     by_cases c25 : t120 = true
     ·subst c25
      have H1 : ((laws_markLogS.f kj8 t109 1).bind fun bt121 => (if bt121.1 < 0 then (laws_FnExactAgreedLog.j1 kj8 l0 a1 t105 t106 t112 true) else ((laws_eqLog.f kj8 t112 t105).bind fun t123 => (if t123 = true then (laws_FnExactAgreedLog.j1 kj8 l0 a1 t105 t106 t112 (t113 != t106)) else (laws_FnExactAgreedLog.j1 kj8 l0 a1 t105 t106 t112 true))))) = some r := by rw [if_pos rfl] at H;exact H
      clear H;have H := H1;clear H1;replace H := Option.bind_eq_some_iff.mp H;obtain ⟨⟨t121,t122⟩,A260,H⟩ := H;replace H : (if t121 < 0 then (laws_FnExactAgreedLog.j1 kj8 l0 a1 t105 t106 t112 true) else ((laws_eqLog.f kj8 t112 t105).bind fun t123 => (if t123 = true then (laws_FnExactAgreedLog.j1 kj8 l0 a1 t105 t106 t112 (t113 != t106)) else (laws_FnExactAgreedLog.j1 kj8 l0 a1 t105 t106 t112 true)))) = some r := H;have A26 := Aside0.mk A260;clear A260;have HC27 := Aside0.mk H;clear H
      go_upto_region 14 with (first | ((with_reducible refine gate_callee (f := 6) rfl ?_);refine goesL_ (some 47) rfl rfl Try.func6 (by kernel_rfl) rfl #[.slice A0 l0.length c0] rfl (by (try simp only [List.map_toArray,List.map_cons,List.map_nil]);first | done | rfl | (simp only [List.length_drop,List.length_take];rfl)) ?_;(with_reducible refine (laws_toLogS.calls kj8 _ _ l0 t117 _ ?side1 ?side2 A23.out).mono ?_);(case side1 => repeat (first | exact (Kd.C_below HR0.out HB.out) | (with_reducible refine Kd.C_alloc ?_ _) | (with_reducible refine Kd.C_drewN ?_ _) | (with_reducible refine Kd.C_drew ?_)));(case side2 => exact HC0.out);rintro e w28 ⟨v118,rfl,ho0,hb⟩;refine ⟨_,rfl,?_⟩;have n0_ := Aside0.mk (Kd.S_elder' (by (with_reducible repeat (first | apply Kd.S_alloc | apply Kd.S_drewN | apply Kd.S_drew));exact HO_8.out) (Kd.S_base ho0) hb);have n1_ := Aside0.mk (Kd.R_below (by (with_reducible repeat (first | apply Kd.R_alloc | apply Kd.R_drewN | apply Kd.R_drew));exact HO_9.out) hb);have n2_ := Aside0.mk (Kd.S_lower (Kd.S_new' (Kd.S_new' ho0 (Kd.S_lt (by (with_reducible repeat (first | apply Kd.S_alloc | apply Kd.S_drewN | apply Kd.S_drew));exact HO_8.out))) (Kd.R_lt (by (with_reducible repeat (first | apply Kd.R_alloc | apply Kd.R_drewN | apply Kd.R_drew));exact HO_9.out))) (below_size (by repeat (first | (with_reducible first | exact HB.out | apply below_alloc | apply pw_below_drewN | apply below_drew1) | exact HB.out))));have n3_ := Aside0.mk (below_step (by repeat (first | (with_reducible first | exact HB.out | apply below_alloc | apply pw_below_drewN | apply below_drew1) | exact HB.out)) hb);clear HO_8;clear HO_9;clear HB;have HO_8 := n0_;have HO_9 := n1_;have HO119 := n2_;have HB := n3_;clear n0_ n1_ n2_ n3_;(try clear hb);(try clear hb2);(try clear hk);(try clear hi);(try clear ho0);obtain ⟨Ao29,co29,eo29⟩ := Kd.S_slice HO119.out;subst eo29) | ((with_reducible refine gate_callee (f := 9) rfl ?_);refine goesL_ (some 48) rfl rfl Try.func9 (by kernel_rfl) rfl #[.slice Ao14 t109.length co14,.slice Ao29 t117.length co29] rfl (by (try simp only [List.map_toArray,List.map_cons,List.map_nil]);first | done | rfl | (simp only [List.length_drop,List.length_take];rfl)) ?_;(with_reducible refine (laws_eqLogS.calls kj8 _ _ t109 _ _ t117 true _ ?side1 ?side2 ?side3 ?side4 A24.out).mono ?_);(case side1 => repeat (first | exact (Kd.S_reads' HO_8.out).2.2 | (with_reducible refine Kd.C_alloc ?_ _) | (with_reducible refine Kd.C_drewN ?_ _) | (with_reducible refine Kd.C_drew ?_)));(case side2 => exact (Kd.S_reads' HO_8.out).2.1);(case side3 => repeat (first | exact (Kd.S_reads' HO119.out).2.2 | (with_reducible refine Kd.C_alloc ?_ _) | (with_reducible refine Kd.C_drewN ?_ _) | (with_reducible refine Kd.C_drew ?_)));(case side4 => exact (Kd.S_reads' HO119.out).2.1);rintro e w30 ⟨rfl,hb⟩;refine ⟨_,rfl,?_⟩;have n0_ := Aside0.mk (Kd.S_below (by (with_reducible repeat (first | apply Kd.S_alloc | apply Kd.S_drewN | apply Kd.S_drew));exact HO_8.out) hb);have n1_ := Aside0.mk (Kd.R_below (by (with_reducible repeat (first | apply Kd.R_alloc | apply Kd.R_drewN | apply Kd.R_drew));exact HO_9.out) hb);have n2_ := Aside0.mk (Kd.S_below (by (with_reducible repeat (first | apply Kd.S_alloc | apply Kd.S_drewN | apply Kd.S_drew));exact HO119.out) hb);have n3_ := Aside0.mk (below_step (by repeat (first | (with_reducible first | exact HB.out | apply below_alloc | apply pw_below_drewN | apply below_drew1) | exact HB.out)) hb);clear HO_8;clear HO_9;clear HO119;clear HB;have HO_8 := n0_;have HO_9 := n1_;have HO119 := n2_;have HB := n3_;clear n0_ n1_ n2_ n3_;(try clear hb);(try clear hb2);(try clear hk);(try clear hi)) | ((with_reducible refine gate_callee (f := 10) rfl ?_);refine goesL_ (some 52) rfl rfl Try.func10 (by kernel_rfl) rfl #[.slice Ao14 t109.length co14,.int .i64 1] rfl (by (try simp only [List.map_toArray,List.map_cons,List.map_nil]);first | done | rfl | (simp only [List.length_drop,List.length_take];rfl)) ?_;(with_reducible refine (laws_markLogS.calls kj8 (fun k_ => (∃ q,q ∈ 25 :: ((Kd.slice 40 k40)).E ∧ ∃ cells,w30.heap[k_]? = some (.cells cells q (0,0))) ∧ some k_ ≠ (v114 : Value).ownBlock) (.slice Ao14 t109.length co14) t109 1 t121 t122 w _ ?side1 ?side2 A26.out).mono ?_);(case side1 => repeat (first | (with_reducible first | exact HB.out | apply below_alloc | apply pw_below_drewN | apply below_drew1) | exact HB.out));(case side2 => exact Kd.S_mono (Kd.S_bound (HO_8.out)) (fun _ hk_ => ⟨hk_.2.2.2,by first | exact hk_.1 | exact hk_.1.1 | exact hk_.1.2⟩));rintro e w31 ⟨rfl,hy0,hb,hkp⟩;refine ⟨_,rfl,?_⟩;have n0_ := Aside0.mk (Kd.S_mono (ok' := fun _ => True) hy0 (fun _ _ => trivial));have n1_ := Aside0.mk (Kd.R_mono (ok' := fun _ => True) (Kd.R_kept (Kd.R_tight rfl (HO_9.out)) hkp (fun k_ hk_ hs_ => hs_.2 hk_)) (fun _ _ => trivial));have n2_ := Aside0.mk (hb);clear HO_8;clear HO_9;clear HB;clear HO119;have HO_8 := n0_;have HO_9 := n1_;have HB := n2_;clear n0_ n1_ n2_;(try clear hb);(try clear hkp);(try clear hy0)))
      (try simp only [Act.put,List.setIfInBounds_toArray,List.set_cons_zero,List.set_cons_succ])
      go_cut [65] (fun v65 wc => ∃ (kq : Nat) (x65_26 : Bool),v65 = .bool x65_26 ∧ Aside0 (laws_FnExactAgreedLog.j1 kq l0 a1 t105 t106 t112 x65_26 = some r) ∧ Aside0 (kq ≤ kj8) ∧ Aside0 (Kd.R k40 40 wc w.heap.size (fun _ => True) v114 t112) ∧ Aside0 (Below w.heap.size w wc))
      case first =>
       have H := HC27.out;clear HC27
       by_cases c32 : t121 < 0
       ·rw [if_pos c32] at H;have c32b0 : decide (t121 < 0) = true := decide_eq_true c32;clear c32;(first | rw [c32b0] | (simp only [i64_w,i32_w];rw [c32b0]) | skip);have H' := Aside0.mk H;clear H
        go_wp2
        go_meet
        case rel => exact ⟨_,(true),(by first | rfl | (simp only [IntKind.wrap_i64,wrap64];done) | (simp;done) | (simp [*];done)),H',⟨by have := HJ8.out;first | omega | exact Nat.le_refl _⟩,⟨by (with_reducible repeat (first | apply Kd.R_alloc | apply Kd.R_drewN | apply Kd.R_drew));exact HO_9.out⟩,⟨by repeat (first | (with_reducible first | exact HB.out | apply below_alloc | apply pw_below_drewN | apply below_drew1) | exact HB.out)⟩⟩
       ·rw [if_neg c32] at H;have c32b0 : decide (t121 < 0) = false := decide_eq_false c32;clear c32;(first | rw [c32b0] | (simp only [i64_w,i32_w];rw [c32b0]) | skip);replace H := Option.bind_eq_some_iff.mp H;obtain ⟨t123,A330,H⟩ := H;replace H : (if t123 = true then (laws_FnExactAgreedLog.j1 kj8 l0 a1 t105 t106 t112 (t113 != t106)) else (laws_FnExactAgreedLog.j1 kj8 l0 a1 t105 t106 t112 true)) = some r := H;have A33 := Aside0.mk A330;clear A330
        by_cases c34 : t123 = true
        ·subst c34
         have H1 : (laws_FnExactAgreedLog.j1 kj8 l0 a1 t105 t106 t112 (t113 != t106)) = some r := by rw [if_pos rfl] at H;exact H
         clear H;have H := H1;clear H1;have H' := Aside0.mk H;clear H;obtain ⟨Ao35,co35,eo35⟩ := Kd.R_slice HO_9.out;subst eo35
         go_wp2_with (first | (go_at_call 8;(with_reducible refine (laws_eqLog.calls kj8 _ _ t112 _ _ t105 true _ ?side1 ?side2 ?side3 ?side4 A33.out).mono ?_);(case side1 => repeat (first | exact (Kd.R_reads' HO_9.out).2.2 | (with_reducible refine Kd.C_alloc ?_ _) | (with_reducible refine Kd.C_drewN ?_ _) | (with_reducible refine Kd.C_drew ?_)));(case side2 => exact (Kd.R_reads' HO_9.out).2.1);(case side3 => repeat (first | exact (Kd.C_below HR900.out HB.out) | (with_reducible refine Kd.C_alloc ?_ _) | (with_reducible refine Kd.C_drewN ?_ _) | (with_reducible refine Kd.C_drew ?_)));(case side4 => exact HC900.out);rintro e w36 ⟨rfl,hb⟩;have n0_ := Aside0.mk (Kd.S_below (by (with_reducible repeat (first | apply Kd.S_alloc | apply Kd.S_drewN | apply Kd.S_drew));exact HO_8.out) hb);have n1_ := Aside0.mk (Kd.R_below (by (with_reducible repeat (first | apply Kd.R_alloc | apply Kd.R_drewN | apply Kd.R_drew));exact HO_9.out) hb);have n2_ := Aside0.mk (below_step (by repeat (first | (with_reducible first | exact HB.out | apply below_alloc | apply pw_below_drewN | apply below_drew1) | exact HB.out)) hb);clear HO_8;clear HO_9;clear HB;have HO_8 := n0_;have HO_9 := n1_;have HB := n2_;clear n0_ n1_ n2_;(try clear hb);(try clear hb2);(try clear hk);(try clear hi)))
         go_meet
         case rel => exact ⟨_,((t113 != t106)),(by first | rfl | (simp only [IntKind.wrap_i64,wrap64];done) | (simp;done) | (simp [*];done)),H',⟨by have := HJ8.out;first | omega | exact Nat.le_refl _⟩,⟨by (with_reducible repeat (first | apply Kd.R_alloc | apply Kd.R_drewN | apply Kd.R_drew));exact HO_9.out⟩,⟨by repeat (first | (with_reducible first | exact HB.out | apply below_alloc | apply pw_below_drewN | apply below_drew1) | exact HB.out)⟩⟩
        ·replace c34 := Bool.eq_false_iff.mpr c34;subst c34
         have H1 : (laws_FnExactAgreedLog.j1 kj8 l0 a1 t105 t106 t112 true) = some r := by rw [if_neg (show ¬ (false = true) by decide)] at H;exact H
         clear H;have H := H1;clear H1;have H' := Aside0.mk H;clear H;obtain ⟨Ao37,co37,eo37⟩ := Kd.R_slice HO_9.out;subst eo37
         go_wp2_with (first | (go_at_call 8;(with_reducible refine (laws_eqLog.calls kj8 _ _ t112 _ _ t105 false _ ?side1 ?side2 ?side3 ?side4 A33.out).mono ?_);(case side1 => repeat (first | exact (Kd.R_reads' HO_9.out).2.2 | (with_reducible refine Kd.C_alloc ?_ _) | (with_reducible refine Kd.C_drewN ?_ _) | (with_reducible refine Kd.C_drew ?_)));(case side2 => exact (Kd.R_reads' HO_9.out).2.1);(case side3 => repeat (first | exact (Kd.C_below HR900.out HB.out) | (with_reducible refine Kd.C_alloc ?_ _) | (with_reducible refine Kd.C_drewN ?_ _) | (with_reducible refine Kd.C_drew ?_)));(case side4 => exact HC900.out);rintro e w38 ⟨rfl,hb⟩;have n0_ := Aside0.mk (Kd.S_below (by (with_reducible repeat (first | apply Kd.S_alloc | apply Kd.S_drewN | apply Kd.S_drew));exact HO_8.out) hb);have n1_ := Aside0.mk (Kd.R_below (by (with_reducible repeat (first | apply Kd.R_alloc | apply Kd.R_drewN | apply Kd.R_drew));exact HO_9.out) hb);have n2_ := Aside0.mk (below_step (by repeat (first | (with_reducible first | exact HB.out | apply below_alloc | apply pw_below_drewN | apply below_drew1) | exact HB.out)) hb);clear HO_8;clear HO_9;clear HB;have HO_8 := n0_;have HO_9 := n1_;have HB := n2_;clear n0_ n1_ n2_;(try clear hb);(try clear hb2);(try clear hk);(try clear hi)))
         go_meet
         case rel => exact ⟨_,(true),(by first | rfl | (simp only [IntKind.wrap_i64,wrap64];done) | (simp;done) | (simp [*];done)),H',⟨by have := HJ8.out;first | omega | exact Nat.le_refl _⟩,⟨by (with_reducible repeat (first | apply Kd.R_alloc | apply Kd.R_drewN | apply Kd.R_drew));exact HO_9.out⟩,⟨by repeat (first | (with_reducible first | exact HB.out | apply below_alloc | apply pw_below_drewN | apply below_drew1) | exact HB.out)⟩⟩
      case rest =>
       clear HC27;(try clear c1);(try clear c2);(try clear p2);(try clear c3);(try clear c4);(try clear c4b0);(try clear c5);(try clear c6);(try clear c7);(try clear c8);(try clear c9);(try clear c10);(try clear c17);(try clear c22);(try clear c25);(try clear c32);(try clear c32b0);(try clear c34);(try clear p2);obtain ⟨kq,x65_26,rfl,HA,HJ26,HO_9,HB⟩ := hcut
       cases kq with
       | zero => exact absurd HA.out (by simp [laws_FnExactAgreedLog.j1])
       | succ kj26 =>
        have H := HA.out;clear HA;simp only [laws_FnExactAgreedLog.j1] at H
        by_cases c39 : x65_26 = true
        ·subst c39
         have H1 : (some false) = some r := by rw [if_pos rfl] at H;exact H
         clear H;have H := H1;clear H1;obtain rfl := Option.some.inj H
         go_wp2
         go_ret
         exact ⟨by first | rfl | (simp [errW_none,errW_some,IntKind.wrap_i64,wrap64];done) | (simp [errW_none,errW_some] <;> rfl) | (simp [*,errW_none,errW_some] <;> rfl),by first | exact below_step HBO.out (by repeat (first | (with_reducible first | exact HB.out | apply below_alloc | apply pw_below_drewN | apply below_drew1) | exact HB.out)) | (repeat (first | (with_reducible first | exact HB.out | apply below_alloc | apply pw_below_drewN | apply below_drew1) | exact HB.out))⟩
        ·replace c39 := Bool.eq_false_iff.mpr c39;subst c39
         have H1 : ((laws_markLog.f kj26 t112 1).bind fun bt124 => ((laws_heldLog.f kj26 bt124.2 1).bind fun t126 => (if t126 < 0 then (some false) else (if t126 = bt124.1 then ((laws_toLogS.f kj26 l0).bind fun t127 => ((impl_AgreedLog.f kj26 t127 a1).bind fun bt130 => ((laws_eqLog.f kj26 bt130.1 t105).bind fun t134 => (if t134 = true then (laws_FnExactAgreedLog.j2 kj26 bt124.2 bt124.1 (bt130.2 != t106)) else (laws_FnExactAgreedLog.j2 kj26 bt124.2 bt124.1 true))))) else (some false))))) = some r := by rw [if_neg (show ¬ (false = true) by decide)] at H;exact H
         clear H;have H := H1;clear H1;replace H := Option.bind_eq_some_iff.mp H;obtain ⟨⟨t124,t125⟩,A400,H⟩ := H;replace H : ((laws_heldLog.f kj26 t125 1).bind fun t126 => (if t126 < 0 then (some false) else (if t126 = t124 then ((laws_toLogS.f kj26 l0).bind fun t127 => ((impl_AgreedLog.f kj26 t127 a1).bind fun bt130 => ((laws_eqLog.f kj26 bt130.1 t105).bind fun t134 => (if t134 = true then (laws_FnExactAgreedLog.j2 kj26 t125 t124 (bt130.2 != t106)) else (laws_FnExactAgreedLog.j2 kj26 t125 t124 true))))) else (some false)))) = some r := H;have A40 := Aside0.mk A400;clear A400;replace H := Option.bind_eq_some_iff.mp H;obtain ⟨t126,A410,H⟩ := H;replace H : (if t126 < 0 then (some false) else (if t126 = t124 then ((laws_toLogS.f kj26 l0).bind fun t127 => ((impl_AgreedLog.f kj26 t127 a1).bind fun bt130 => ((laws_eqLog.f kj26 bt130.1 t105).bind fun t134 => (if t134 = true then (laws_FnExactAgreedLog.j2 kj26 t125 t124 (bt130.2 != t106)) else (laws_FnExactAgreedLog.j2 kj26 t125 t124 true))))) else (some false))) = some r := H;have A41 := Aside0.mk A410;clear A410
         by_cases c42 : t126 < 0
         ·rw [if_pos c42] at H;have c42b0 : decide (t126 < 0) = true := decide_eq_true c42;clear c42;obtain rfl := Option.some.inj H;obtain ⟨Ao43,co43,eo43⟩ := Kd.R_slice HO_9.out;subst eo43
          go_wp2_with (first | ((with_reducible refine gate_callee (f := 11) rfl ?_);refine goesL_ (some 68) rfl rfl Try.func11 (by kernel_rfl) rfl #[.slice Ao43 t112.length co43,.int .i64 1] rfl (by (try simp only [List.map_toArray,List.map_cons,List.map_nil]);first | done | rfl | (simp only [List.length_drop,List.length_take];rfl)) ?_;(with_reducible refine (laws_markLog.calls kj26 (fun k_ => some k_ = (.slice Ao43 t112.length co43 : Value).ownBlock) (.slice Ao43 t112.length co43) t112 1 t124 t125 w _ ?side1 ?side2 A40.out).mono ?_);(case side1 => repeat (first | (with_reducible first | exact HB.out | apply below_alloc | apply pw_below_drewN | apply below_drew1) | exact HB.out));(case side2 => exact Kd.R_tight rfl HO_9.out);rintro e w44 ⟨rfl,hy0,hb,hkp⟩;refine ⟨_,rfl,?_⟩;have n0_ := Aside0.mk (Kd.R_reok rfl hy0 (fun k_ e_ => HO_9.out.1 k_ e_));have n1_ := Aside0.mk (hb);clear HO_9;clear HB;have HO_9 := n0_;have HB := n1_;clear n0_ n1_;(try clear hb);(try clear hkp);(try clear hy0)) | ((with_reducible refine gate_callee (f := 12) rfl ?_);refine goesL_ (some 71) rfl rfl Try.func12 (by kernel_rfl) rfl #[.slice Ao43 t125.length co43,.int .i64 1] rfl (by (try simp only [List.map_toArray,List.map_cons,List.map_nil]);first | done | (rw [show t125.length = t112.length from (Kd.R_reads' HO_9.out).1.symm] <;> rfl) | rfl | (simp only [List.length_drop,List.length_take];rfl)) ?_;(with_reducible refine (laws_heldLog.calls kj26 _ _ t125 1 t126 _ ?side1 ?side2 A41.out).mono ?_);(case side1 => repeat (first | exact (Kd.R_reads' HO_9.out).2.2 | (with_reducible refine Kd.C_alloc ?_ _) | (with_reducible refine Kd.C_drewN ?_ _) | (with_reducible refine Kd.C_drew ?_)));(case side2 => rw [show t125.length = t112.length from (Kd.R_reads' HO_9.out).1.symm];exact (Kd.R_reads' HO_9.out).2.1);rintro e w' ⟨rfl,⟨nd,rfl⟩⟩;refine ⟨_,rfl,?_⟩))
          go_ret
          exact ⟨by first | rfl | (simp [errW_none,errW_some,IntKind.wrap_i64,wrap64];done) | (simp [errW_none,errW_some] <;> rfl) | (simp [*,errW_none,errW_some] <;> rfl),by first | exact below_step HBO.out (by repeat (first | (with_reducible first | exact HB.out | apply below_alloc | apply pw_below_drewN | apply below_drew1) | exact HB.out)) | (repeat (first | (with_reducible first | exact HB.out | apply below_alloc | apply pw_below_drewN | apply below_drew1) | exact HB.out))⟩
         ·rw [if_neg c42] at H;have c42b0 : decide (t126 < 0) = false := decide_eq_false c42;clear c42
          by_cases c45 : t126 = t124
          ·rw [if_pos c45] at H;have c45b0 : (t126 == t124) = true := beq_iff_eq.mpr c45;have c45b1 : (t126 != t124) = false := bne_eq_false_iff_eq.mpr c45;clear c45;replace H := Option.bind_eq_some_iff.mp H;obtain ⟨t127,A460,H⟩ := H;replace H : ((impl_AgreedLog.f kj26 t127 a1).bind fun bt130 => ((laws_eqLog.f kj26 bt130.1 t105).bind fun t134 => (if t134 = true then (laws_FnExactAgreedLog.j2 kj26 t125 t124 (bt130.2 != t106)) else (laws_FnExactAgreedLog.j2 kj26 t125 t124 true)))) = some r := H;have A46 := Aside0.mk A460;clear A460;replace H := Option.bind_eq_some_iff.mp H;obtain ⟨⟨t130,t131⟩,A470,H⟩ := H;replace H : ((laws_eqLog.f kj26 t130 t105).bind fun t134 => (if t134 = true then (laws_FnExactAgreedLog.j2 kj26 t125 t124 (t131 != t106)) else (laws_FnExactAgreedLog.j2 kj26 t125 t124 true))) = some r := H;have A47 := Aside0.mk A470;clear A470;have HC48 := Aside0.mk H;clear H;obtain ⟨Ao49,co49,eo49⟩ := Kd.R_slice HO_9.out;subst eo49
           go_upto_region 25 with (first | ((with_reducible refine gate_callee (f := 11) rfl ?_);refine goesL_ (some 68) rfl rfl Try.func11 (by kernel_rfl) rfl #[.slice Ao49 t112.length co49,.int .i64 1] rfl (by (try simp only [List.map_toArray,List.map_cons,List.map_nil]);first | done | rfl | (simp only [List.length_drop,List.length_take];rfl)) ?_;(with_reducible refine (laws_markLog.calls kj26 (fun k_ => some k_ = (.slice Ao49 t112.length co49 : Value).ownBlock) (.slice Ao49 t112.length co49) t112 1 t124 t125 w _ ?side1 ?side2 A40.out).mono ?_);(case side1 => repeat (first | (with_reducible first | exact HB.out | apply below_alloc | apply pw_below_drewN | apply below_drew1) | exact HB.out));(case side2 => exact Kd.R_tight rfl HO_9.out);rintro e w50 ⟨rfl,hy0,hb,hkp⟩;refine ⟨_,rfl,?_⟩;have n0_ := Aside0.mk (Kd.R_reok rfl hy0 (fun k_ e_ => HO_9.out.1 k_ e_));have n1_ := Aside0.mk (hb);clear HO_9;clear HB;have HO_9 := n0_;have HB := n1_;clear n0_ n1_;(try clear hb);(try clear hkp);(try clear hy0)) | ((with_reducible refine gate_callee (f := 12) rfl ?_);refine goesL_ (some 71) rfl rfl Try.func12 (by kernel_rfl) rfl #[.slice Ao49 t125.length co49,.int .i64 1] rfl (by (try simp only [List.map_toArray,List.map_cons,List.map_nil]);first | done | (rw [show t125.length = t112.length from (Kd.R_reads' HO_9.out).1.symm] <;> rfl) | rfl | (simp only [List.length_drop,List.length_take];rfl)) ?_;(with_reducible refine (laws_heldLog.calls kj26 _ _ t125 1 t126 _ ?side1 ?side2 A41.out).mono ?_);(case side1 => repeat (first | exact (Kd.R_reads' HO_9.out).2.2 | (with_reducible refine Kd.C_alloc ?_ _) | (with_reducible refine Kd.C_drewN ?_ _) | (with_reducible refine Kd.C_drew ?_)));(case side2 => rw [show t125.length = t112.length from (Kd.R_reads' HO_9.out).1.symm];exact (Kd.R_reads' HO_9.out).2.1);rintro e w' ⟨rfl,⟨nd,rfl⟩⟩;refine ⟨_,rfl,?_⟩) | ((with_reducible refine gate_callee (f := 6) rfl ?_);refine goesL_ (some 79) rfl rfl Try.func6 (by kernel_rfl) rfl #[.slice A0 l0.length c0] rfl (by (try simp only [List.map_toArray,List.map_cons,List.map_nil]);first | done | rfl | (simp only [List.length_drop,List.length_take];rfl)) ?_;(with_reducible refine (laws_toLogS.calls kj26 _ _ l0 t127 _ ?side1 ?side2 A46.out).mono ?_);(case side1 => repeat (first | exact (Kd.C_below HR0.out (by repeat (first | (with_reducible first | exact HB.out | apply below_alloc | apply pw_below_drewN | apply below_drew1) | exact HB.out))) | (with_reducible refine Kd.C_alloc ?_ _) | (with_reducible refine Kd.C_drewN ?_ _) | (with_reducible refine Kd.C_drew ?_)));(case side2 => exact HC0.out);rintro e w51 ⟨v128,rfl,ho0,hb⟩;refine ⟨_,rfl,?_⟩;have n0_ := Aside0.mk (Kd.R_below (by (with_reducible repeat (first | apply Kd.R_alloc | apply Kd.R_drewN | apply Kd.R_drew));exact HO_9.out) hb);have n1_ := Aside0.mk (Kd.S_lower (Kd.S_new' ho0 (Kd.R_lt (by (with_reducible repeat (first | apply Kd.R_alloc | apply Kd.R_drewN | apply Kd.R_drew));exact HO_9.out))) (below_size (by repeat (first | (with_reducible first | exact HB.out | apply below_alloc | apply pw_below_drewN | apply below_drew1) | exact HB.out))));have n2_ := Aside0.mk (below_step (by repeat (first | (with_reducible first | exact HB.out | apply below_alloc | apply pw_below_drewN | apply below_drew1) | exact HB.out)) hb);clear HO_9;clear HB;have HO_9 := n0_;have HO129 := n1_;have HB := n2_;clear n0_ n1_ n2_;(try clear hb);(try clear hb2);(try clear hk);(try clear hi);(try clear ho0);obtain ⟨Ao52,co52,eo52⟩ := Kd.S_slice HO129.out;subst eo52) | ((with_reducible refine gate_callee (f := 7) rfl ?_);refine goesL_ (some 81) rfl rfl Try.func7 (by kernel_rfl) rfl #[.slice Ao52 t127.length co52,.int .i64 a1] rfl (by (try simp only [List.map_toArray,List.map_cons,List.map_nil]);first | done | rfl | (simp only [List.length_drop,List.length_take];rfl)) ?_;(with_reducible refine (impl_AgreedLog.calls kj26 _ _ t127 a1 t130 t131 _ ?side1 ?side2 A47.out).mono ?_);(case side1 => repeat (first | exact (Kd.S_reads' HO129.out).2.2 | (with_reducible refine Kd.C_alloc ?_ _) | (with_reducible refine Kd.C_drewN ?_ _) | (with_reducible refine Kd.C_drew ?_)));(case side2 => exact (Kd.S_reads' HO129.out).2.1);rintro e w53 ⟨v132,rfl,ho0,hb⟩;refine ⟨_,rfl,?_⟩;have n0_ := Aside0.mk (Kd.R_elder' (by (with_reducible repeat (first | apply Kd.R_alloc | apply Kd.R_drewN | apply Kd.R_drew));exact HO_9.out) (Kd.R_base ho0) hb);have n1_ := Aside0.mk (Kd.S_elder' (by (with_reducible repeat (first | apply Kd.S_alloc | apply Kd.S_drewN | apply Kd.S_drew));exact HO129.out) (Kd.R_base ho0) hb);have n2_ := Aside0.mk (Kd.R_lower (Kd.R_new' ho0 (Kd.R_lt (by (with_reducible repeat (first | apply Kd.R_alloc | apply Kd.R_drewN | apply Kd.R_drew));exact HO_9.out))) (below_size (by repeat (first | (with_reducible first | exact HB.out | apply below_alloc | apply pw_below_drewN | apply below_drew1) | exact HB.out))));have n3_ := Aside0.mk (below_step (by repeat (first | (with_reducible first | exact HB.out | apply below_alloc | apply pw_below_drewN | apply below_drew1) | exact HB.out)) hb);clear HO_9;clear HO129;clear HB;have HO_9 := n0_;have HO129 := n1_;have HO133 := n2_;have HB := n3_;clear n0_ n1_ n2_ n3_;(try clear hb);(try clear hb2);(try clear hk);(try clear hi);(try clear ho0)))
           (try simp only [Act.put,List.setIfInBounds_toArray,List.set_cons_zero,List.set_cons_succ])
           go_cut [92] (fun v92 wc => ∃ (kq : Nat) (x92_47 : Bool),v92 = .bool x92_47 ∧ Aside0 (laws_FnExactAgreedLog.j2 kq t125 t124 x92_47 = some r) ∧ Aside0 (kq ≤ kj26) ∧ Aside0 (Kd.R k40 40 wc w.heap.size (fun _ => True) (.slice Ao49 t112.length co49) t125) ∧ Aside0 (Below w.heap.size w wc))
           case first =>
            have H := HC48.out;clear HC48;replace H := Option.bind_eq_some_iff.mp H;obtain ⟨t134,A540,H⟩ := H;replace H : (if t134 = true then (laws_FnExactAgreedLog.j2 kj26 t125 t124 (t131 != t106)) else (laws_FnExactAgreedLog.j2 kj26 t125 t124 true)) = some r := H;have A54 := Aside0.mk A540;clear A540
            by_cases c55 : t134 = true
            ·subst c55
             have H1 : (laws_FnExactAgreedLog.j2 kj26 t125 t124 (t131 != t106)) = some r := by rw [if_pos rfl] at H;exact H
             clear H;have H := H1;clear H1;have H' := Aside0.mk H;clear H;obtain ⟨Ao56,co56,eo56⟩ := Kd.R_slice HO133.out;subst eo56
             go_wp2_with (first | ((with_reducible refine gate_callee (f := 8) rfl ?_);refine goesL_ (some 86) rfl rfl Try.func8 (by kernel_rfl) rfl #[.slice Ao56 t130.length co56,.slice A900 t105.length c900] rfl (by (try simp only [List.map_toArray,List.map_cons,List.map_nil]);first | done | rfl | (simp only [List.length_drop,List.length_take];rfl)) ?_;(with_reducible refine (laws_eqLog.calls kj26 _ _ t130 _ _ t105 true _ ?side1 ?side2 ?side3 ?side4 A54.out).mono ?_);(case side1 => repeat (first | exact (Kd.R_reads' HO133.out).2.2 | (with_reducible refine Kd.C_alloc ?_ _) | (with_reducible refine Kd.C_drewN ?_ _) | (with_reducible refine Kd.C_drew ?_)));(case side2 => exact (Kd.R_reads' HO133.out).2.1);(case side3 => repeat (first | exact (Kd.C_below HR900.out HB.out) | (with_reducible refine Kd.C_alloc ?_ _) | (with_reducible refine Kd.C_drewN ?_ _) | (with_reducible refine Kd.C_drew ?_)));(case side4 => exact HC900.out);rintro e w57 ⟨rfl,hb⟩;refine ⟨_,rfl,?_⟩;have n0_ := Aside0.mk (Kd.R_below (by (with_reducible repeat (first | apply Kd.R_alloc | apply Kd.R_drewN | apply Kd.R_drew));exact HO_9.out) hb);have n1_ := Aside0.mk (Kd.S_below (by (with_reducible repeat (first | apply Kd.S_alloc | apply Kd.S_drewN | apply Kd.S_drew));exact HO129.out) hb);have n2_ := Aside0.mk (Kd.R_below (by (with_reducible repeat (first | apply Kd.R_alloc | apply Kd.R_drewN | apply Kd.R_drew));exact HO133.out) hb);have n3_ := Aside0.mk (below_step (by repeat (first | (with_reducible first | exact HB.out | apply below_alloc | apply pw_below_drewN | apply below_drew1) | exact HB.out)) hb);clear HO_9;clear HO129;clear HO133;clear HB;have HO_9 := n0_;have HO129 := n1_;have HO133 := n2_;have HB := n3_;clear n0_ n1_ n2_ n3_;(try clear hb);(try clear hb2);(try clear hk);(try clear hi)))
             go_meet
             case rel => exact ⟨_,((t131 != t106)),(by first | rfl | (simp only [IntKind.wrap_i64,wrap64];done) | (simp;done) | (simp [*];done)),H',⟨by have := HJ8.out;have := HJ26.out;first | omega | exact Nat.le_refl _⟩,⟨by (with_reducible repeat (first | apply Kd.R_alloc | apply Kd.R_drewN | apply Kd.R_drew));exact Kd.R_mono HO_9.out (fun _ hk => trivial)⟩,⟨by repeat (first | (with_reducible first | exact HB.out | apply below_alloc | apply pw_below_drewN | apply below_drew1) | exact HB.out)⟩⟩
            ·replace c55 := Bool.eq_false_iff.mpr c55;subst c55
             have H1 : (laws_FnExactAgreedLog.j2 kj26 t125 t124 true) = some r := by rw [if_neg (show ¬ (false = true) by decide)] at H;exact H
             clear H;have H := H1;clear H1;have H' := Aside0.mk H;clear H;obtain ⟨Ao58,co58,eo58⟩ := Kd.R_slice HO133.out;subst eo58
             go_wp2_with (first | ((with_reducible refine gate_callee (f := 8) rfl ?_);refine goesL_ (some 86) rfl rfl Try.func8 (by kernel_rfl) rfl #[.slice Ao58 t130.length co58,.slice A900 t105.length c900] rfl (by (try simp only [List.map_toArray,List.map_cons,List.map_nil]);first | done | rfl | (simp only [List.length_drop,List.length_take];rfl)) ?_;(with_reducible refine (laws_eqLog.calls kj26 _ _ t130 _ _ t105 false _ ?side1 ?side2 ?side3 ?side4 A54.out).mono ?_);(case side1 => repeat (first | exact (Kd.R_reads' HO133.out).2.2 | (with_reducible refine Kd.C_alloc ?_ _) | (with_reducible refine Kd.C_drewN ?_ _) | (with_reducible refine Kd.C_drew ?_)));(case side2 => exact (Kd.R_reads' HO133.out).2.1);(case side3 => repeat (first | exact (Kd.C_below HR900.out HB.out) | (with_reducible refine Kd.C_alloc ?_ _) | (with_reducible refine Kd.C_drewN ?_ _) | (with_reducible refine Kd.C_drew ?_)));(case side4 => exact HC900.out);rintro e w59 ⟨rfl,hb⟩;refine ⟨_,rfl,?_⟩;have n0_ := Aside0.mk (Kd.R_below (by (with_reducible repeat (first | apply Kd.R_alloc | apply Kd.R_drewN | apply Kd.R_drew));exact HO_9.out) hb);have n1_ := Aside0.mk (Kd.S_below (by (with_reducible repeat (first | apply Kd.S_alloc | apply Kd.S_drewN | apply Kd.S_drew));exact HO129.out) hb);have n2_ := Aside0.mk (Kd.R_below (by (with_reducible repeat (first | apply Kd.R_alloc | apply Kd.R_drewN | apply Kd.R_drew));exact HO133.out) hb);have n3_ := Aside0.mk (below_step (by repeat (first | (with_reducible first | exact HB.out | apply below_alloc | apply pw_below_drewN | apply below_drew1) | exact HB.out)) hb);clear HO_9;clear HO129;clear HO133;clear HB;have HO_9 := n0_;have HO129 := n1_;have HO133 := n2_;have HB := n3_;clear n0_ n1_ n2_ n3_;(try clear hb);(try clear hb2);(try clear hk);(try clear hi)))
             go_meet
             case rel => exact ⟨_,(true),(by first | rfl | (simp only [IntKind.wrap_i64,wrap64];done) | (simp;done) | (simp [*];done)),H',⟨by have := HJ8.out;have := HJ26.out;first | omega | exact Nat.le_refl _⟩,⟨by (with_reducible repeat (first | apply Kd.R_alloc | apply Kd.R_drewN | apply Kd.R_drew));exact Kd.R_mono HO_9.out (fun _ hk => trivial)⟩,⟨by repeat (first | (with_reducible first | exact HB.out | apply below_alloc | apply pw_below_drewN | apply below_drew1) | exact HB.out)⟩⟩
           case rest =>
            clear HC48;(try clear c1);(try clear c2);(try clear p2);(try clear c3);(try clear c4);(try clear c4b0);(try clear c5);(try clear c6);(try clear c7);(try clear c8);(try clear c9);(try clear c10);(try clear c11);(try clear c12);(try clear c17);(try clear c22);(try clear c25);(try clear c32);(try clear c32b0);(try clear c34);(try clear c39);(try clear c42);(try clear c42b0);(try clear c45);(try clear c45b0);(try clear c45b1);(try clear c55);(try clear p2);obtain ⟨kq,x92_47,rfl,HA,HJ47,HO_9,HB⟩ := hcut;have hl9_47 := (Kd.R_reads' HO_9.out).1;rw [hl9_47] at HO_9;(try simp only [hl9_47])
            cases kq with
            | zero => exact absurd HA.out (by simp [laws_FnExactAgreedLog.j2])
            | succ kj47 =>
             have H := HA.out;clear HA;simp only [laws_FnExactAgreedLog.j2] at H
             by_cases c60 : x92_47 = true
             ·subst c60
              have H1 : (some false) = some r := by rw [if_pos rfl] at H;exact H
              clear H;have H := H1;clear H1;obtain rfl := Option.some.inj H
              go_wp2
              go_ret
              exact ⟨by first | rfl | (simp [errW_none,errW_some,IntKind.wrap_i64,wrap64];done) | (simp [errW_none,errW_some] <;> rfl) | (simp [*,errW_none,errW_some] <;> rfl),by first | exact below_step HBO.out (by repeat (first | (with_reducible first | exact HB.out | apply below_alloc | apply pw_below_drewN | apply below_drew1) | exact HB.out)) | (repeat (first | (with_reducible first | exact HB.out | apply below_alloc | apply pw_below_drewN | apply below_drew1) | exact HB.out))⟩
             ·replace c60 := Bool.eq_false_iff.mpr c60;subst c60
              have H1 : ((laws_heldLog.f kj47 t125 1).bind fun t135 => (if t135 < 0 then (some false) else (if t135 = t124 then (some true) else (some false)))) = some r := by rw [if_neg (show ¬ (false = true) by decide)] at H;exact H
              clear H;have H := H1;clear H1;replace H := Option.bind_eq_some_iff.mp H;obtain ⟨t135,A610,H⟩ := H;replace H : (if t135 < 0 then (some false) else (if t135 = t124 then (some true) else (some false))) = some r := H;have A61 := Aside0.mk A610;clear A610
              by_cases c62 : t135 < 0
              ·rw [if_pos c62] at H;have c62b0 : decide (t135 < 0) = true := decide_eq_true c62;clear c62;obtain rfl := Option.some.inj H
               go_wp2_with (first | ((with_reducible refine gate_callee (f := 12) rfl ?_);refine goesL_ (some 95) rfl rfl Try.func12 (by kernel_rfl) rfl #[.slice Ao49 t125.length co49,.int .i64 1] rfl (by (try simp only [List.map_toArray,List.map_cons,List.map_nil]);first | done | rfl | (simp only [List.length_drop,List.length_take];rfl)) ?_;(with_reducible refine (laws_heldLog.calls kj47 _ _ t125 1 t135 _ ?side1 ?side2 A61.out).mono ?_);(case side1 => repeat (first | exact (Kd.R_reads' HO_9.out).2.2 | (with_reducible refine Kd.C_alloc ?_ _) | (with_reducible refine Kd.C_drewN ?_ _) | (with_reducible refine Kd.C_drew ?_)));(case side2 => exact (Kd.R_reads' HO_9.out).2.1);rintro e w' ⟨rfl,⟨nd,rfl⟩⟩;refine ⟨_,rfl,?_⟩))
               go_ret
               exact ⟨by first | rfl | (simp [errW_none,errW_some,IntKind.wrap_i64,wrap64];done) | (simp [errW_none,errW_some] <;> rfl) | (simp [*,errW_none,errW_some] <;> rfl),by first | exact below_step HBO.out (by repeat (first | (with_reducible first | exact HB.out | apply below_alloc | apply pw_below_drewN | apply below_drew1) | exact HB.out)) | (repeat (first | (with_reducible first | exact HB.out | apply below_alloc | apply pw_below_drewN | apply below_drew1) | exact HB.out))⟩
              ·rw [if_neg c62] at H;have c62b0 : decide (t135 < 0) = false := decide_eq_false c62;clear c62
               by_cases c63 : t135 = t124
               ·rw [if_pos c63] at H;have c63b0 : (t135 == t124) = true := beq_iff_eq.mpr c63;have c63b1 : (t135 != t124) = false := bne_eq_false_iff_eq.mpr c63;clear c63;obtain rfl := Option.some.inj H
                go_wp2_with (first | ((with_reducible refine gate_callee (f := 12) rfl ?_);refine goesL_ (some 95) rfl rfl Try.func12 (by kernel_rfl) rfl #[.slice Ao49 t125.length co49,.int .i64 1] rfl (by (try simp only [List.map_toArray,List.map_cons,List.map_nil]);first | done | rfl | (simp only [List.length_drop,List.length_take];rfl)) ?_;(with_reducible refine (laws_heldLog.calls kj47 _ _ t125 1 t135 _ ?side1 ?side2 A61.out).mono ?_);(case side1 => repeat (first | exact (Kd.R_reads' HO_9.out).2.2 | (with_reducible refine Kd.C_alloc ?_ _) | (with_reducible refine Kd.C_drewN ?_ _) | (with_reducible refine Kd.C_drew ?_)));(case side2 => exact (Kd.R_reads' HO_9.out).2.1);rintro e w' ⟨rfl,⟨nd,rfl⟩⟩;refine ⟨_,rfl,?_⟩))
                go_ret
                exact ⟨by first | rfl | (simp [errW_none,errW_some,IntKind.wrap_i64,wrap64];done) | (simp [errW_none,errW_some] <;> rfl) | (simp [*,errW_none,errW_some] <;> rfl),by first | exact below_step HBO.out (by repeat (first | (with_reducible first | exact HB.out | apply below_alloc | apply pw_below_drewN | apply below_drew1) | exact HB.out)) | (repeat (first | (with_reducible first | exact HB.out | apply below_alloc | apply pw_below_drewN | apply below_drew1) | exact HB.out))⟩
               ·rw [if_neg c63] at H;have c63b0 : (t135 == t124) = false := beq_eq_false_iff_ne.mpr c63;have c63b1 : (t135 != t124) = true := bne_iff_ne.mpr c63;obtain rfl := Option.some.inj H
                go_wp2_with (first | ((with_reducible refine gate_callee (f := 12) rfl ?_);refine goesL_ (some 95) rfl rfl Try.func12 (by kernel_rfl) rfl #[.slice Ao49 t125.length co49,.int .i64 1] rfl (by (try simp only [List.map_toArray,List.map_cons,List.map_nil]);first | done | rfl | (simp only [List.length_drop,List.length_take];rfl)) ?_;(with_reducible refine (laws_heldLog.calls kj47 _ _ t125 1 t135 _ ?side1 ?side2 A61.out).mono ?_);(case side1 => repeat (first | exact (Kd.R_reads' HO_9.out).2.2 | (with_reducible refine Kd.C_alloc ?_ _) | (with_reducible refine Kd.C_drewN ?_ _) | (with_reducible refine Kd.C_drew ?_)));(case side2 => exact (Kd.R_reads' HO_9.out).2.1);rintro e w' ⟨rfl,⟨nd,rfl⟩⟩;refine ⟨_,rfl,?_⟩))
                go_ret
                exact ⟨by first | rfl | (simp [errW_none,errW_some,IntKind.wrap_i64,wrap64];done) | (simp [errW_none,errW_some] <;> rfl) | (simp [*,errW_none,errW_some] <;> rfl),by first | exact below_step HBO.out (by repeat (first | (with_reducible first | exact HB.out | apply below_alloc | apply pw_below_drewN | apply below_drew1) | exact HB.out)) | (repeat (first | (with_reducible first | exact HB.out | apply below_alloc | apply pw_below_drewN | apply below_drew1) | exact HB.out))⟩
          ·rw [if_neg c45] at H;have c45b0 : (t126 == t124) = false := beq_eq_false_iff_ne.mpr c45;have c45b1 : (t126 != t124) = true := bne_iff_ne.mpr c45;obtain rfl := Option.some.inj H;obtain ⟨Ao64,co64,eo64⟩ := Kd.R_slice HO_9.out;subst eo64
           go_wp2_with (first | ((with_reducible refine gate_callee (f := 11) rfl ?_);refine goesL_ (some 68) rfl rfl Try.func11 (by kernel_rfl) rfl #[.slice Ao64 t112.length co64,.int .i64 1] rfl (by (try simp only [List.map_toArray,List.map_cons,List.map_nil]);first | done | rfl | (simp only [List.length_drop,List.length_take];rfl)) ?_;(with_reducible refine (laws_markLog.calls kj26 (fun k_ => some k_ = (.slice Ao64 t112.length co64 : Value).ownBlock) (.slice Ao64 t112.length co64) t112 1 t124 t125 w _ ?side1 ?side2 A40.out).mono ?_);(case side1 => repeat (first | (with_reducible first | exact HB.out | apply below_alloc | apply pw_below_drewN | apply below_drew1) | exact HB.out));(case side2 => exact Kd.R_tight rfl HO_9.out);rintro e w65 ⟨rfl,hy0,hb,hkp⟩;refine ⟨_,rfl,?_⟩;have n0_ := Aside0.mk (Kd.R_reok rfl hy0 (fun k_ e_ => HO_9.out.1 k_ e_));have n1_ := Aside0.mk (hb);clear HO_9;clear HB;have HO_9 := n0_;have HB := n1_;clear n0_ n1_;(try clear hb);(try clear hkp);(try clear hy0)) | ((with_reducible refine gate_callee (f := 12) rfl ?_);refine goesL_ (some 71) rfl rfl Try.func12 (by kernel_rfl) rfl #[.slice Ao64 t125.length co64,.int .i64 1] rfl (by (try simp only [List.map_toArray,List.map_cons,List.map_nil]);first | done | (rw [show t125.length = t112.length from (Kd.R_reads' HO_9.out).1.symm] <;> rfl) | rfl | (simp only [List.length_drop,List.length_take];rfl)) ?_;(with_reducible refine (laws_heldLog.calls kj26 _ _ t125 1 t126 _ ?side1 ?side2 A41.out).mono ?_);(case side1 => repeat (first | exact (Kd.R_reads' HO_9.out).2.2 | (with_reducible refine Kd.C_alloc ?_ _) | (with_reducible refine Kd.C_drewN ?_ _) | (with_reducible refine Kd.C_drew ?_)));(case side2 => rw [show t125.length = t112.length from (Kd.R_reads' HO_9.out).1.symm];exact (Kd.R_reads' HO_9.out).2.1);rintro e w' ⟨rfl,⟨nd,rfl⟩⟩;refine ⟨_,rfl,?_⟩))
           go_ret
           exact ⟨by first | rfl | (simp [errW_none,errW_some,IntKind.wrap_i64,wrap64];done) | (simp [errW_none,errW_some] <;> rfl) | (simp [*,errW_none,errW_some] <;> rfl),by first | exact below_step HBO.out (by repeat (first | (with_reducible first | exact HB.out | apply below_alloc | apply pw_below_drewN | apply below_drew1) | exact HB.out)) | (repeat (first | (with_reducible first | exact HB.out | apply below_alloc | apply pw_below_drewN | apply below_drew1) | exact HB.out))⟩
     ·replace c25 := Bool.eq_false_iff.mpr c25;subst c25
      have H1 : (some false) = some r := by rw [if_neg (show ¬ (false = true) by decide)] at H;exact H
      clear H;have H := H1;clear H1;obtain rfl := Option.some.inj H
      go_wp2_with (first | ((with_reducible refine gate_callee (f := 6) rfl ?_);refine goesL_ (some 47) rfl rfl Try.func6 (by kernel_rfl) rfl #[.slice A0 l0.length c0] rfl (by (try simp only [List.map_toArray,List.map_cons,List.map_nil]);first | done | rfl | (simp only [List.length_drop,List.length_take];rfl)) ?_;(with_reducible refine (laws_toLogS.calls kj8 _ _ l0 t117 _ ?side1 ?side2 A23.out).mono ?_);(case side1 => repeat (first | exact (Kd.C_below HR0.out HB.out) | (with_reducible refine Kd.C_alloc ?_ _) | (with_reducible refine Kd.C_drewN ?_ _) | (with_reducible refine Kd.C_drew ?_)));(case side2 => exact HC0.out);rintro e w66 ⟨v118,rfl,ho0,hb⟩;refine ⟨_,rfl,?_⟩;have n0_ := Aside0.mk (Kd.S_elder' (by (with_reducible repeat (first | apply Kd.S_alloc | apply Kd.S_drewN | apply Kd.S_drew));exact HO_8.out) (Kd.S_base ho0) hb);have n1_ := Aside0.mk (Kd.R_below (by (with_reducible repeat (first | apply Kd.R_alloc | apply Kd.R_drewN | apply Kd.R_drew));exact HO_9.out) hb);have n2_ := Aside0.mk (Kd.S_lower (Kd.S_new' (Kd.S_new' ho0 (Kd.S_lt (by (with_reducible repeat (first | apply Kd.S_alloc | apply Kd.S_drewN | apply Kd.S_drew));exact HO_8.out))) (Kd.R_lt (by (with_reducible repeat (first | apply Kd.R_alloc | apply Kd.R_drewN | apply Kd.R_drew));exact HO_9.out))) (below_size (by repeat (first | (with_reducible first | exact HB.out | apply below_alloc | apply pw_below_drewN | apply below_drew1) | exact HB.out))));have n3_ := Aside0.mk (below_step (by repeat (first | (with_reducible first | exact HB.out | apply below_alloc | apply pw_below_drewN | apply below_drew1) | exact HB.out)) hb);clear HO_8;clear HO_9;clear HB;have HO_8 := n0_;have HO_9 := n1_;have HO119 := n2_;have HB := n3_;clear n0_ n1_ n2_ n3_;(try clear hb);(try clear hb2);(try clear hk);(try clear hi);(try clear ho0);obtain ⟨Ao67,co67,eo67⟩ := Kd.S_slice HO119.out;subst eo67) | ((with_reducible refine gate_callee (f := 9) rfl ?_);refine goesL_ (some 48) rfl rfl Try.func9 (by kernel_rfl) rfl #[.slice Ao14 t109.length co14,.slice Ao67 t117.length co67] rfl (by (try simp only [List.map_toArray,List.map_cons,List.map_nil]);first | done | rfl | (simp only [List.length_drop,List.length_take];rfl)) ?_;(with_reducible refine (laws_eqLogS.calls kj8 _ _ t109 _ _ t117 false _ ?side1 ?side2 ?side3 ?side4 A24.out).mono ?_);(case side1 => repeat (first | exact (Kd.S_reads' HO_8.out).2.2 | (with_reducible refine Kd.C_alloc ?_ _) | (with_reducible refine Kd.C_drewN ?_ _) | (with_reducible refine Kd.C_drew ?_)));(case side2 => exact (Kd.S_reads' HO_8.out).2.1);(case side3 => repeat (first | exact (Kd.S_reads' HO119.out).2.2 | (with_reducible refine Kd.C_alloc ?_ _) | (with_reducible refine Kd.C_drewN ?_ _) | (with_reducible refine Kd.C_drew ?_)));(case side4 => exact (Kd.S_reads' HO119.out).2.1);rintro e w68 ⟨rfl,hb⟩;refine ⟨_,rfl,?_⟩;have n0_ := Aside0.mk (Kd.S_below (by (with_reducible repeat (first | apply Kd.S_alloc | apply Kd.S_drewN | apply Kd.S_drew));exact HO_8.out) hb);have n1_ := Aside0.mk (Kd.R_below (by (with_reducible repeat (first | apply Kd.R_alloc | apply Kd.R_drewN | apply Kd.R_drew));exact HO_9.out) hb);have n2_ := Aside0.mk (Kd.S_below (by (with_reducible repeat (first | apply Kd.S_alloc | apply Kd.S_drewN | apply Kd.S_drew));exact HO119.out) hb);have n3_ := Aside0.mk (below_step (by repeat (first | (with_reducible first | exact HB.out | apply below_alloc | apply pw_below_drewN | apply below_drew1) | exact HB.out)) hb);clear HO_8;clear HO_9;clear HO119;clear HB;have HO_8 := n0_;have HO_9 := n1_;have HO119 := n2_;have HB := n3_;clear n0_ n1_ n2_ n3_;(try clear hb);(try clear hb2);(try clear hk);(try clear hi)))
      go_ret
      exact ⟨by first | rfl | (simp [errW_none,errW_some,IntKind.wrap_i64,wrap64];done) | (simp [errW_none,errW_some] <;> rfl) | (simp [*,errW_none,errW_some] <;> rfl),by first | exact below_step HBO.out (by repeat (first | (with_reducible first | exact HB.out | apply below_alloc | apply pw_below_drewN | apply below_drew1) | exact HB.out)) | (repeat (first | (with_reducible first | exact HB.out | apply below_alloc | apply pw_below_drewN | apply below_drew1) | exact HB.out))⟩
end Go.Proofs.Ytcoepebmmgcplaa.G
end

section
namespace Go.Proofs.Ytcoepebmmgcplaa.G
open Go.RowKit Go.Proofs.YtcoepebmmgcplaaW.PrintWords Go.Proofs.YtcoepebmmgcplaaW.PrintLast Go.Proofs.YtcoepebmmgcplaaW.PrintMore
attribute [local go_sem] max2_int min2_int max_two min_two max_three min_three max_four min_four
set_option linter.unusedVariables false
set_option linter.unusedSimpArgs false
open Go.ChangeShapes Go.WideShapes Go.Deep in
structure Opens {α : Type} (P : Program) (t : TypeId) (d : Kd α) (Wf : α → Prop) : Prop where
  sz : P.cellsOf t = d.sz
  op : ∀ {H : Type} {enc : TypeId × Value → H} {w : World} {base : Nat} {spare : Nat → Bool} {held : Bool} {fuel : Nat} {cs : List Value} {x : DataW H × List MemPlace}, DataW.trod enc P w base spare held fuel t cs = some x → ∃ a : α, d.K w a cs ∧ Wf a
theorem opens_int {P : Program} {t : TypeId} {k : IntKind} (ht : P.underlying t = some (.int k)) (hC : P.cellsOf t = 1) : Opens P t (Kd.int k) (fun n => (Lit.int k n).wf = true) where
  sz := hC
  op := fun h => by
    obtain ⟨n, rfl, _, hw⟩ := DataW.trod_int ht h
    exact ⟨n, rfl, hw⟩
theorem opens_bool {P : Program} {t : TypeId} (ht : P.underlying t = some .bool) (hC : P.cellsOf t = 1) : Opens P t Kd.bool (fun _ => True) where
  sz := hC
  op := fun h => by
    obtain ⟨n, rfl, _⟩ := DataW.trod_bool ht h
    exact ⟨n, rfl, trivial⟩
theorem list_of {α : Type} {Q : Nat → α → Prop} : ∀ n, (∀ i, i < n → ∃ y, Q i y) → ∃ l : List α, l.length = n ∧ ∀ i y, l[i]? = some y → Q i y
  | 0, _ => ⟨[], rfl, fun i y h => by simp at h⟩
  | n + 1, h => by
    obtain ⟨l, hl, hq⟩ := list_of n (fun i hi => h i (by omega))
    obtain ⟨y, hy⟩ := h n (by omega)
    refine ⟨l ++ [y], by simp [hl], fun i z hz => ?_⟩
    rcases Nat.lt_or_ge i l.length with hi | hi
    · rw [List.getElem?_append_left hi] at hz
      exact hq i z hz
    · rw [List.getElem?_append_right hi] at hz
      have : i - l.length = 0 := by
        rcases Nat.eq_zero_or_pos (i - l.length) with h0 | h0
        · exact h0
        · rw [List.getElem?_eq_none (by simp; omega)] at hz
          cases hz
      rw [this] at hz
      have e : y = z := by simpa using hz
      subst e
      have : i = n := by omega
      subst this
      exact hy
theorem opens_slice {α : Type} {P : Program} {t e : TypeId} {d : Kd α} {Wf : α → Prop} (ht : P.underlying t = some (.slice e)) (hC : P.cellsOf t = 1) (he : Opens P e d Wf) : Opens P t (Kd.slice e d) (fun l => l.length ≤ 9223372036854775807 ∧ ∀ x ∈ l, Wf x) where
  sz := hC
  op := fun {H enc w base spare held fuel cs x} h => by
    rcases Go.Deep.open_slice ht h with ⟨rfl, _⟩ | ⟨a, len, cap, m, n, D, Pl, rfl, hb, hl, hm, hmm, _, hi⟩
    · exact ⟨[], ⟨none, 0, rfl, Nat.le_refl _, rfl, by simp, fun h => absurd h (by simp)⟩, by simp, by simp⟩
    · have hlen : len ≤ m := by rw [hmm]; split <;> omega
      obtain ⟨l, hll, hq⟩ := list_of (Q := fun i y => (∃ c, c.length = d.sz ∧ d.K w y c ∧ ∀ j u, c[j]? = some u → w.cell? (a.add (i * d.sz + j)) = some u) ∧ Wf y) len (fun i him => by
        obtain ⟨cs', hc, ht'⟩ := hi i (by omega)
        obtain ⟨y, hK, hW⟩ := he.op ht'
        obtain ⟨_, hcl, hat⟩ := World.cells?_some hc
        refine ⟨y, ⟨cs', d.K_len hK, hK, fun j u hu => ?_⟩, hW⟩
        have hj : j < cs'.length := (List.getElem?_eq_some_iff.1 hu).1
        have h1 := hat j (by rw [he.sz, ← d.K_len hK]; exact hj)
        rw [← he.sz, ← Go.Deep.add_add, h1, hu])
      refine ⟨l, ⟨some a, cap, by rw [hll], by rw [hll]; exact hl, rfl, by rw [hll]; have := hm; unfold maxLen at this; omega, fun _ => ⟨a, rfl, fun j p hj => (hq j p hj).1⟩⟩, by rw [hll]; have := hm; unfold maxLen at this; omega, fun y hy => ?_⟩
      obtain ⟨j, hj, rfl⟩ := List.mem_iff_getElem.1 hy
      exact (hq j _ (List.getElem?_eq_getElem hj)).2
def offs (P : Program) : List TypeId → Nat → Nat
  | [], _ => 0
  | _ :: _, 0 => 0
  | t :: ts, i + 1 => P.cellsOf t + offs P ts i
def OpensF {α : Type} (P : Program) (ts : List TypeId) (d : Kd α) (Wf : α → Prop) : Prop :=
  ∀ {H : Type} {enc : TypeId × Value → H} {w : World} {base : Nat} {spare : Nat → Bool} {held : Bool} {n : Nat} {cs : List Value}, cs.length = d.sz → (∀ i t, ts[i]? = some t → ∃ x, DataW.trod enc P w base spare held n t ((cs.drop (offs P ts i)).take (P.cellsOf t)) = some x) → ∃ a : α, d.K w a cs ∧ Wf a
theorem opensF_one {α : Type} {P : Program} {t : TypeId} {d : Kd α} {Wf : α → Prop} (h : Opens P t d Wf) : OpensF P [t] d Wf := fun {H enc w base spare held n cs} hl hf => by
  obtain ⟨x, hx⟩ := hf 0 t rfl
  simp only [offs, List.drop_zero] at hx
  rw [List.take_of_length_le (by rw [hl, h.sz]; exact Nat.le_refl _)] at hx
  exact h.op hx
theorem opensF_cons {α β : Type} {P : Program} {t : TypeId} {ts : List TypeId} {d : Kd α} {d' : Kd β} {Wf : α → Prop} {Wf' : β → Prop} (h : Opens P t d Wf) (h' : OpensF P ts d' Wf') : OpensF P (t :: ts) (Kd.pair d d') (fun x => Wf x.1 ∧ Wf' x.2) := fun {H enc w base spare held n cs} hl hf => by
  have hl' : cs.length = d.sz + d'.sz := hl
  obtain ⟨x, hx⟩ := hf 0 t rfl
  simp only [offs, List.drop_zero] at hx
  obtain ⟨a, hK, hW⟩ := h.op hx
  obtain ⟨b, hK', hW'⟩ := h' (enc := enc) (w := w) (base := base) (spare := spare) (held := held) (n := n) (cs := cs.drop d.sz) (by rw [List.length_drop, hl']; omega) (fun i t' ht' => by
    obtain ⟨y, hy⟩ := hf (i + 1) t' (by simpa using ht')
    refine ⟨y, ?_⟩
    rw [List.drop_drop]
    simpa only [offs, h.sz] using hy)
  refine ⟨(a, b), ⟨_, _, (List.take_append_drop d.sz cs).symm, ?_, hK'⟩, hW, hW'⟩
  rw [← h.sz]
  exact hK
theorem opens_struct {α β : Type} {P : Program} {t : TypeId} {fs : Array Field} {d : Kd α} {Wf : α → Prop} (f : β → α) (g : α → β) (hfg : ∀ a, f (g a) = a) (ht : P.underlying t = some (.struct fs)) (hC : P.cellsOf t = d.sz)
    (ho : ((List.range fs.size).all fun i => decide ((fs[i]?.map Field.offset) = some (offs P (fs.toList.map Field.type) i))) = true) (h : OpensF P (fs.toList.map Field.type) d Wf) : Opens P t (Kd.iso d f) (fun x => Wf (f x)) where
  sz := hC
  op := fun {H enc w base spare held fuel cs x} hx => by
    obtain ⟨xs, n, _, _, hlen, hxl, hf⟩ := DataW.trod_struct ht hx
    obtain ⟨a, hK, hW⟩ := h (enc := enc) (w := w) (base := base) (spare := spare) (held := held) (n := n) (cs := cs) (by rw [hlen, hC]) (fun i t' ht' => by
      have hi : i < fs.size := by
        have := (List.getElem?_eq_some_iff.1 ht').1
        simpa using this
      have e : fs[i]? = some fs[i] := Array.getElem?_eq_getElem hi
      have et : fs[i].type = t' := by
        rw [List.getElem?_map] at ht'
        have : fs.toList[i]? = some fs[i] := by simp [hi]
        rw [this] at ht'
        simpa using ht'
      have eo := of_decide_eq_true (List.all_eq_true.1 ho i (List.mem_range.2 hi))
      rw [e] at eo
      have eo' : fs[i].offset = offs P (fs.toList.map Field.type) i := by simpa using eo
      have h1 := hf i fs[i] e
      rw [et, eo'] at h1
      exact ⟨_, h1.trans (List.getElem?_eq_getElem (show i < xs.length by omega))⟩)
    exact ⟨g a, by show d.K w (f (g a)) cs; rw [hfg]; exact hK, by show Wf (f (g a)); rw [hfg]; exact hW⟩
theorem op2 : Opens Try.prog 2 (Kd.int .i64) (fun x : Int => (Lit.int .i64 x).wf = true) := opens_int (k := .i64) Try.underlying2 (by kernel_rfl)
theorem op4 : Opens Try.prog 4 Kd.bool (fun x : Bool => True) := opens_bool Try.underlying4 (by kernel_rfl)
theorem op57 : Opens Try.prog 57 k57 (fun x : S57 => (Lit.int .i64 x.f0).wf = true ∧ (Lit.int .i64 x.f1).wf = true ∧ True) := opens_struct (fun x : S57 => (x.f0, x.f1, x.f2)) (fun a => ⟨a.1, a.2.1, a.2.2⟩) (fun _ => rfl) Try.underlying57 (by kernel_rfl) (by kernel_rfl) (opensF_cons op2 (opensF_cons op2 (opensF_one op4)))
theorem op36 : Opens Try.prog 36 (Kd.slice 57 k57) (fun x : List (S57) => (x.length ≤ 9223372036854775807 ∧ ∀ x_ ∈ x, (Lit.int .i64 x_.f0).wf = true ∧ (Lit.int .i64 x_.f1).wf = true ∧ True)) := opens_slice Try.underlying36 (by kernel_rfl) op57
theorem op22 : Opens Try.prog 22 (Kd.slice 36 (Kd.slice 57 k57)) (fun x : List (List (S57)) => (x.length ≤ 9223372036854775807 ∧ ∀ x_ ∈ x, (x_.length ≤ 9223372036854775807 ∧ ∀ x__ ∈ x_, (Lit.int .i64 x__.f0).wf = true ∧ (Lit.int .i64 x__.f1).wf = true ∧ True))) := opens_slice Try.underlying22 (by kernel_rfl) op36
end Go.Proofs.Ytcoepebmmgcplaa.G
end

section
namespace Go.Proofs.Ytcoepebmmgcplaa.G.Pure
open Go.RowKit Go.Proofs.Ytcoepebmmgcplaa.G Go.Proofs.YtcoepebmmgcplaaW.PrintWords Go.Proofs.YtcoepebmmgcplaaW.PrintLast Go.Proofs.YtcoepebmmgcplaaW.PrintMore
set_option linter.unusedVariables false
set_option linter.unusedSimpArgs false
theorem w64 {n : Int} (h0 : -9223372036854775808 ≤ n) (h1 : n ≤ 9223372036854775807) : wrap64 n = n := by
  unfold wrap64
  omega
theorem loop_inv {σ γ : Type} (L : Nat → σ → Option γ) (n : Nat) (I : Nat → σ → Prop) (R : γ → Prop)
    (hs : ∀ k i s, i < n → I i s → (∃ s', I (i + 1) s' ∧ L (k + 1) s = L k s') ∨ (∃ r, R r ∧ L (k + 1) s = some r))
    (he : ∀ k s, I n s → ∃ r, R r ∧ L (k + 1) s = some r) : ∀ k s, I 0 s → n < k → ∃ r, R r ∧ L k s = some r := by
  have go : ∀ d i k s, i + d = n → I i s → d < k → ∃ r, R r ∧ L k s = some r := by
    intro d
    induction d with
    | zero =>
      intro i k s hi hI hk
      obtain ⟨k, rfl⟩ : ∃ m, k = m + 1 := ⟨k - 1, by omega⟩
      obtain rfl : i = n := by omega
      exact he k s hI
    | succ d ih =>
      intro i k s hi hI hk
      obtain ⟨k, rfl⟩ : ∃ m, k = m + 1 := ⟨k - 1, by omega⟩
      rcases hs k i s (by omega) hI with ⟨s', hI', h⟩ | h
      · rw [h]
        exact ih (i + 1) k s' (by omega) hI' (by omega)
      · exact h
  intro k s hI hk
  exact go n 0 k s (by omega) hI hk
theorem take_set_succ {α : Type} {l : List α} {i : Nat} (h : i < l.length) (v : α) : (l.set i v).take (i + 1) = l.take i ++ [v] := by
  rw [List.take_succ_eq_append_getElem (by simpa using h)]
  simp [List.take_set_of_le]
theorem rd_nat {l : List Int} {i : Nat} (h : i < l.length) : rd l (i : Int) = l[i] := by
  simp [rd, List.getD_eq_getElem?_getD, List.getElem?_eq_getElem h]
end Go.Proofs.Ytcoepebmmgcplaa.G.Pure
end

section
namespace Go.Proofs.Ytcoepebmmgcplaa.G.Pure
open Go.RowKit Go.Proofs.Ytcoepebmmgcplaa.G Go.Proofs.YtcoepebmmgcplaaW.PrintWords Go.Proofs.YtcoepebmmgcplaaW.PrintLast Go.Proofs.YtcoepebmmgcplaaW.PrintMore
set_option linter.unusedVariables false
set_option linter.unusedSimpArgs false
abbrev En := S40
theorem rd_impl_Entry {l : List En} {i : Nat} (h : i < l.length) : rd_T40 l (i : Int) = l[i] := by
  simp [rd_T40, List.getD_eq_getElem?_getD, List.getElem?_eq_getElem h]
theorem rd_set_Entry {l : List En} {i : Nat} (h : i < l.length) (v : En) : rd_T40 (l.set i v) (i : Int) = v := by
  rw [rd_impl_Entry (by simpa using h)]
  simp
end Go.Proofs.Ytcoepebmmgcplaa.G.Pure
end

section
namespace Go.Proofs.Ytcoepebmmgcplaa.G.Pure
open Go.RowKit Go.Proofs.Ytcoepebmmgcplaa.G Go.Proofs.YtcoepebmmgcplaaW.PrintWords Go.Proofs.YtcoepebmmgcplaaW.PrintLast Go.Proofs.YtcoepebmmgcplaaW.PrintMore
set_option linter.unusedVariables false
set_option linter.unusedSimpArgs false
instance enDec : DecidableEq En := fun x y => decidable_of_iff (x.f0 = y.f0 ∧ x.f1 = y.f1 ∧ x.f2 = y.f2) ⟨fun h => by
    obtain ⟨a0, a1, a2⟩ := x
    obtain ⟨b0, b1, b2⟩ := y
    obtain ⟨rfl, rfl, rfl⟩ := h
    rfl, fun h => by subst h; exact ⟨rfl, rfl, rfl⟩⟩
def cntE (g : List (List En)) (x : En) : Nat := (g.filter fun l => decide (x ∈ l)).length
theorem has_eq (l : List En) (hl : l.length ≤ 1048576) (x : En) (K : Nat) (hK : l.length < K) : spec_l07Has.f K l x.f0 x.f1 x.f2 = some (decide (x ∈ l)) := by
  unfold spec_l07Has.f
  have key : ∀ d i k, i + d = l.length → d < k → spec_l07Has.l0 k l (i : Int) x.f0 x.f1 x.f2 = some (decide (x ∈ l.drop i)) := by
    intro d
    induction d with
    | zero =>
      intro i k hi hk
      obtain ⟨k, rfl⟩ : ∃ m, k = m + 1 := ⟨k - 1, by omega⟩
      simp only [spec_l07Has.l0]
      rw [if_neg (by omega), List.drop_eq_nil_of_le (by omega)]
      simp
    | succ d ih =>
      intro i k hi hk
      obtain ⟨k, rfl⟩ : ∃ m, k = m + 1 := ⟨k - 1, by omega⟩
      have hil : i < l.length := by omega
      simp only [spec_l07Has.l0]
      rw [if_pos (by omega), if_pos (by omega), rd_impl_Entry hil, List.drop_eq_getElem_cons hil]
      have he : ((l[i].f0 == x.f0 && (l[i].f1 == x.f1 && (l[i].f2 == x.f2))) = true) ↔ x = l[i] := by
        generalize l[i] = y
        obtain ⟨a0, a1, a2⟩ := x
        obtain ⟨b0, b1, b2⟩ := y
        simp only [Bool.and_eq_true, beq_iff_eq]
        constructor
        · rintro ⟨rfl, rfl, rfl⟩
          rfl
        · intro h
          injection h with h1 h2 h3
          exact ⟨h1.symm, h2.symm, h3.symm⟩
      by_cases h : x = l[i]
      · rw [if_pos (he.2 h), decide_eq_true (List.mem_cons.2 (.inl h))]
      · rw [if_neg (fun q => h (he.1 q)), w64 (by omega) (by omega), show ((i : Int) + 1) = ((i + 1 : Nat) : Int) by omega, ih (i + 1) k (by omega) (by omega)]
        exact congrArg some (decide_eq_decide.2 ⟨fun q => List.mem_cons_of_mem _ q, fun q => (List.mem_cons.1 q).resolve_left h⟩)
  have := key l.length 0 K (by omega) hK
  rw [List.drop_zero] at this
  exact this
theorem contains_eq (l : List En) (hl : l.length ≤ 1048576) (x : En) (K : Nat) (hK : l.length < K) : slices_Contains_Log_Entry.f K l x.f0 x.f1 x.f2 = some (decide (x ∈ l)) := by
  unfold slices_Contains_Log_Entry.f slices_Index_Log_Entry.f
  have key : ∀ d i k, i + d = l.length → d < k → ∃ r, slices_Index_Log_Entry.l0 k l (l.length : Int) (i : Int) x.f0 x.f1 x.f2 = some r ∧ (r ≥ 0 ↔ x ∈ l.drop i) := by
    intro d
    induction d with
    | zero =>
      intro i k hi hk
      obtain ⟨k, rfl⟩ : ∃ m, k = m + 1 := ⟨k - 1, by omega⟩
      simp only [slices_Index_Log_Entry.l0]
      rw [if_neg (by omega), List.drop_eq_nil_of_le (by omega)]
      exact ⟨-1, rfl, by simp⟩
    | succ d ih =>
      intro i k hi hk
      obtain ⟨k, rfl⟩ : ∃ m, k = m + 1 := ⟨k - 1, by omega⟩
      have hil : i < l.length := by omega
      simp only [slices_Index_Log_Entry.l0]
      rw [if_pos (by omega), if_pos (by omega), if_pos (by omega), rd_impl_Entry hil, List.drop_eq_getElem_cons hil]
      have he : ((x.f0 == l[i].f0 && (x.f1 == l[i].f1 && (x.f2 == l[i].f2))) = true) ↔ x = l[i] := by
        generalize l[i] = y
        obtain ⟨a0, a1, a2⟩ := x
        obtain ⟨b0, b1, b2⟩ := y
        simp
      by_cases h : x = l[i]
      · rw [if_pos (he.2 h)]
        exact ⟨_, rfl, ⟨fun _ => List.mem_cons.2 (.inl h), fun _ => by omega⟩⟩
      · rw [if_neg (fun q => h (he.1 q)), w64 (by omega) (by omega), show ((i : Int) + 1) = ((i + 1 : Nat) : Int) by omega]
        obtain ⟨r, h1, h2⟩ := ih (i + 1) k (by omega) (by omega)
        exact ⟨r, h1, h2.trans ⟨fun q => List.mem_cons_of_mem _ q, fun q => (List.mem_cons.1 q).resolve_left h⟩⟩
  obtain ⟨r, h1, h2⟩ := key l.length 0 K (by omega) hK
  rw [show ((0 : Nat) : Int) = 0 from rfl] at h1
  rw [h1, List.drop_zero] at *
  simp only [Option.bind_some]
  rw [decide_eq_decide.2 h2]
end Go.Proofs.Ytcoepebmmgcplaa.G.Pure
end

section
namespace Go.Proofs.Ytcoepebmmgcplaa.G.Pure
open Go.RowKit Go.Proofs.Ytcoepebmmgcplaa.G Go.Proofs.YtcoepebmmgcplaaW.PrintWords Go.Proofs.YtcoepebmmgcplaaW.PrintLast Go.Proofs.YtcoepebmmgcplaaW.PrintMore
set_option linter.unusedVariables false
set_option linter.unusedSimpArgs false
def eLt (x y : En) : Prop := x.f0 < y.f0 ∨ (x.f0 = y.f0 ∧ (x.f1 < y.f1 ∨ (x.f1 = y.f1 ∧ (x.f2 = false ∧ y.f2 = true))))
instance eLtDec (x y : En) : Decidable (eLt x y) := by unfold eLt; infer_instance
theorem eLt_irr (x : En) : ¬ eLt x x := by unfold eLt; simp
theorem eLt_trans {x y z : En} (h1 : eLt x y) (h2 : eLt y z) : eLt x z := by
  obtain ⟨a0, a1, a2⟩ := x
  obtain ⟨b0, b1, b2⟩ := y
  obtain ⟨c0, c1, c2⟩ := z
  unfold eLt at *
  simp only at *
  cases a2 <;> cases b2 <;> cases c2 <;> simp at * <;> omega
theorem eLt_tri {x y : En} (h1 : ¬ eLt x y) (h2 : ¬ eLt y x) : x = y := by
  obtain ⟨a0, a1, a2⟩ := x
  obtain ⟨b0, b1, b2⟩ := y
  unfold eLt at *
  simp only at *
  have : a0 = b0 ∧ a1 = b1 := by constructor <;> omega
  obtain ⟨rfl, rfl⟩ := this
  cases a2 <;> cases b2 <;> simp at * <;> rfl
theorem strict_unique : ∀ a b : List En, a.Pairwise eLt → b.Pairwise eLt → (∀ x, x ∈ a ↔ x ∈ b) → a = b
  | [], [], _, _, _ => rfl
  | [], y :: b, _, _, h => absurd ((h y).2 (List.mem_cons_self)) (by simp)
  | x :: a, [], _, _, h => absurd ((h x).1 (List.mem_cons_self)) (by simp)
  | x :: a, y :: b, ha, hb, h => by
    rw [List.pairwise_cons] at ha hb
    have hxy : x = y := by
      rcases List.mem_cons.1 ((h x).1 List.mem_cons_self) with e | e
      · exact e
      · rcases List.mem_cons.1 ((h y).2 List.mem_cons_self) with e2 | e2
        · exact e2.symm
        · exact absurd (eLt_trans (hb.1 x e) (ha.1 y e2)) (eLt_irr y)
    subst hxy
    rw [strict_unique a b ha.2 hb.2 (fun z => ?_)]
    have hz := h z
    simp only [List.mem_cons] at hz
    constructor
    · intro hza
      rcases hz.1 (.inr hza) with e | e
      · subst e
        exact absurd (ha.1 z hza) (eLt_irr z)
      · exact e
    · intro hzb
      rcases hz.2 (.inr hzb) with e | e
      · subst e
        exact absurd (hb.1 z hzb) (eLt_irr z)
      · exact e
end Go.Proofs.Ytcoepebmmgcplaa.G.Pure
end

section
namespace Go.Proofs.Ytcoepebmmgcplaa.G.Pure
open Go.RowKit Go.Proofs.Ytcoepebmmgcplaa.G Go.Proofs.YtcoepebmmgcplaaW.PrintWords Go.Proofs.YtcoepebmmgcplaaW.PrintLast Go.Proofs.YtcoepebmmgcplaaW.PrintMore
set_option linter.unusedVariables false
set_option linter.unusedSimpArgs false
theorem compact_eq {x y : En} : slices_Compact_Log_Entry.eq x y = true ↔ x = y := by
  obtain ⟨a0, a1, a2⟩ := x
  obtain ⟨b0, b1, b2⟩ := y
  unfold slices_Compact_Log_Entry.eq
  simp
theorem compact_ok {l : List En} (hs : l.Pairwise (fun x y => ¬ eLt y x)) : ∀ n, n ≤ l.length → (slices_Compact_Log_Entry.to l n).Pairwise eLt ∧ (∀ x, x ∈ slices_Compact_Log_Entry.to l n ↔ x ∈ l.take n) ∧ ∀ x ∈ slices_Compact_Log_Entry.to l n, ∀ p, l[n - 1]? = some p → x = p ∨ eLt x p
  | 0, _ => by simp [slices_Compact_Log_Entry.to]
  | n + 1, hn => by
    obtain ⟨h1, h2, h3⟩ := compact_ok hs n (by omega)
    have hy : l.getD n z40 = l[n] := by
      rw [List.getD_eq_getElem?_getD, List.getElem?_eq_getElem (by omega)]
      rfl
    simp only [slices_Compact_Log_Entry.to]
    rw [slices_Compact_Log_Entry.get (by omega), List.take_succ_eq_append_getElem (by omega)]
    by_cases h0 : n = 0
    · subst h0
      simp [slices_Compact_Log_Entry.to]
      intro p hpp
      rw [List.getElem?_eq_getElem (by omega)] at hpp
      exact .inl (Option.some.inj hpp)
    · have hp : l[n - 1]? = some l[n - 1] := List.getElem?_eq_getElem (by omega)
      have hle : ¬ eLt l[n] l[n - 1] := List.pairwise_iff_getElem.1 hs (n - 1) n (by omega) (by omega) (by omega)
      rw [slices_Compact_Log_Entry.get (by omega : n - 1 < l.length)]
      by_cases he : l[n] = l[n - 1]
      · rw [if_neg (by rw [compact_eq.2 he]; simp [h0])]
        refine ⟨h1, fun x => ?_, fun x hx p hpp => ?_⟩
        · rw [h2, List.mem_append, List.mem_singleton]
          refine ⟨.inl, fun h => h.elim id (fun e => ?_)⟩
          rw [e, he]
          exact List.mem_take_iff_getElem.2 ⟨n - 1, by omega, rfl⟩
        · rw [Nat.add_sub_cancel, List.getElem?_eq_getElem (by omega)] at hpp
          rw [← Option.some.inj hpp, he]
          exact h3 x hx _ hp
      · have hlt : eLt l[n - 1] l[n] := by
          by_cases h : eLt l[n - 1] l[n]
          · exact h
          · exact absurd (eLt_tri hle h) he
        have hall : ∀ x ∈ slices_Compact_Log_Entry.to l n, eLt x l[n] := fun x hx => (h3 x hx _ hp).elim (fun e => e ▸ hlt) (fun e => eLt_trans e hlt)
        have hf : slices_Compact_Log_Entry.eq l[n] l[n - 1] = false := by
          cases hq : slices_Compact_Log_Entry.eq l[n] l[n - 1] with
          | false => rfl
          | true => exact absurd (compact_eq.1 hq) he
        rw [if_pos (.inr hf)]
        refine ⟨?_, fun x => by rw [List.mem_append, List.mem_append, h2], fun x hx p hpp => ?_⟩
        · rw [List.pairwise_append]
          exact ⟨h1, by simp, fun a ha b hb => by rw [List.mem_singleton.1 hb]; exact hall a ha⟩
        · rw [Nat.add_sub_cancel, List.getElem?_eq_getElem (by omega)] at hpp
          rw [← Option.some.inj hpp]
          rcases List.mem_append.1 hx with h | h
          · exact .inr (hall x h)
          · exact .inl (List.mem_singleton.1 h)
end Go.Proofs.Ytcoepebmmgcplaa.G.Pure
end

section
namespace Go.Proofs.Ytcoepebmmgcplaa.G.Pure
open Go.RowKit Go.Proofs.Ytcoepebmmgcplaa.G Go.Proofs.YtcoepebmmgcplaaW.PrintWords Go.Proofs.YtcoepebmmgcplaaW.PrintLast Go.Proofs.YtcoepebmmgcplaaW.PrintMore
set_option linter.unusedVariables false
set_option linter.unusedSimpArgs false
theorem srt_lt (x y : En) : Go.Proofs.ltOf slices_SortFunc_Log_Entry__impl_compareEntries.cmp x y = decide (eLt x y) := by
  rw [slices_SortFunc_Log_Entry__impl_compareEntries.ltOf]
  unfold slices_SortFunc_Log_Entry__impl_compareEntries.lt eLt
  congr
theorem sorted_mem (l : List En) (x : En) : x ∈ slices_SortFunc_Log_Entry__impl_compareEntries.sorted l ↔ x ∈ l := by
  unfold slices_SortFunc_Log_Entry__impl_compareEntries.sorted
  exact (List.mergeSort_perm _ _).mem_iff
theorem sorted_pw (l : List En) : (slices_SortFunc_Log_Entry__impl_compareEntries.sorted l).Pairwise (fun x y => ¬ eLt y x) := by
  unfold slices_SortFunc_Log_Entry__impl_compareEntries.sorted
  have h := List.pairwise_mergeSort (le := fun x y : En => !(Go.Proofs.ltOf slices_SortFunc_Log_Entry__impl_compareEntries.cmp) y x)
    (fun a b c h1 h2 => by
      simp only [srt_lt, Bool.not_eq_true', decide_eq_false_iff_not] at *
      intro h3
      by_cases h4 : eLt b a
      · exact h1 h4
      · by_cases h5 : eLt a b
        · exact h2 (eLt_trans h3 h5)
        · rw [eLt_tri h5 h4] at h3
          exact h2 h3)
    (fun a b => by
      simp only [srt_lt, Bool.or_eq_true, Bool.not_eq_true', decide_eq_false_iff_not]
      by_cases h : eLt b a
      · exact .inr (fun h2 => eLt_irr a (eLt_trans h2 h))
      · exact .inl h) l
  refine h.imp (fun {x y} hxy => ?_)
  simpa [srt_lt] using hxy
end Go.Proofs.Ytcoepebmmgcplaa.G.Pure
end

section
namespace Go.Proofs.Ytcoepebmmgcplaa.G.Pure
open Go.RowKit Go.Proofs.Ytcoepebmmgcplaa.G Go.Proofs.YtcoepebmmgcplaaW.PrintWords Go.Proofs.YtcoepebmmgcplaaW.PrintLast Go.Proofs.YtcoepebmmgcplaaW.PrintMore
set_option linter.unusedVariables false
set_option linter.unusedSimpArgs false
theorem loop_inv2 {σ γ : Type} (L : Nat → σ → Option γ) (n K0 : Nat) (I : Nat → σ → Prop) (R : γ → Prop)
    (hs : ∀ k i s, i < n → K0 ≤ k → I i s → (∃ s', I (i + 1) s' ∧ L (k + 1) s = L k s') ∨ (∃ r, R r ∧ L (k + 1) s = some r))
    (he : ∀ k s, K0 ≤ k → I n s → ∃ r, R r ∧ L (k + 1) s = some r) : ∀ k s, I 0 s → n + K0 < k → ∃ r, R r ∧ L k s = some r := by
  have go : ∀ d i k s, i + d = n → I i s → d + K0 < k → ∃ r, R r ∧ L k s = some r := by
    intro d
    induction d with
    | zero =>
      intro i k s hi hI hk
      obtain ⟨k, rfl⟩ : ∃ m, k = m + 1 := ⟨k - 1, by omega⟩
      obtain rfl : i = n := by omega
      exact he k s (by omega) hI
    | succ d ih =>
      intro i k s hi hI hk
      obtain ⟨k, rfl⟩ : ∃ m, k = m + 1 := ⟨k - 1, by omega⟩
      rcases hs k i s (by omega) (by omega) hI with ⟨s', hI', h⟩ | h
      · rw [h]
        exact ih (i + 1) k s' (by omega) hI' (by omega)
      · exact h
  intro k s hI hk
  exact go n 0 k s (by omega) hI (by omega)
end Go.Proofs.Ytcoepebmmgcplaa.G.Pure
end

section
namespace Go.Proofs.Ytcoepebmmgcplaa.G.Pure
open Go.RowKit Go.Proofs.Ytcoepebmmgcplaa.G Go.Proofs.YtcoepebmmgcplaaW.PrintWords Go.Proofs.YtcoepebmmgcplaaW.PrintLast Go.Proofs.YtcoepebmmgcplaaW.PrintMore
set_option linter.unusedVariables false
set_option linter.unusedSimpArgs false
def entryOf (x : S57) : En := ⟨x.f0, x.f1, x.f2⟩
theorem szLog_eq (l : List (S57)) (a : Int) (h0 : 0 ≤ a) (h1 : a ≤ 1048576) (hl : l.length ≤ 9223372036854775807) : laws_szLog.f l a = some (if a - l.length < 0 then -1 else a - l.length) := by
  unfold laws_szLog.f
  rw [w64 (by omega) (by omega)]
  split <;> rfl
theorem rd_laws_Entry {l : List (S57)} {i : Nat} (h : i < l.length) : rd_T57 l (i : Int) = l[i] := by
  simp [rd_T57, List.getD_eq_getElem?_getD, List.getElem?_eq_getElem h]
theorem toLog_eq (k : Nat) (l : List (S57)) (hl : l.length ≤ 1048576) (hk : l.length < k) : laws_toLog.f k l = some (l.map entryOf) := by
  unfold laws_toLog.f
  rw [if_pos (by omega), if_pos (by omega)]
  obtain ⟨r, hr, h⟩ := loop_inv (fun k (s : List En × Int) => laws_toLog.l0 k l s.1 s.2) l.length (fun i s => s.2 = (i : Int) ∧ s.1.length = l.length ∧ s.1.take i = (l.map entryOf).take i) (fun r => r = l.map entryOf)
    (fun k i s hi ⟨h1, h2, h3⟩ => by
      obtain ⟨acc, x⟩ := s
      simp only at h1 h2 h3
      subst h1
      refine .inl ⟨(acc.set i (entryOf l[i]), ((i + 1 : Nat) : Int)), ⟨rfl, by simpa using h2, ?_⟩, ?_⟩
      · rw [take_set_succ (by omega), h3, List.take_succ_eq_append_getElem (by simpa using hi)]
        simp
      · simp only [laws_toLog.l0]
        rw [if_pos (by omega), if_pos (by omega), rd_laws_Entry hi]
        simp only [laws_toEntry.f, Option.bind_some]
        rw [if_pos (by omega), w64 (by omega) (by omega)]
        rfl)
    (fun k s ⟨h1, h2, h3⟩ => by
      obtain ⟨acc, x⟩ := s
      simp only at h1 h2 h3
      subst h1
      refine ⟨acc, ?_, ?_⟩
      · rw [List.take_of_length_le (by omega), List.take_of_length_le (by simp)] at h3
        exact h3
      · simp only [laws_toLog.l0]
        rw [if_neg (by omega)]) k (List.replicate l.length z40, 0) ⟨rfl, by simp, by simp⟩ hk
  subst hr
  simpa using h
theorem eqEntry_self (a : En) : laws_eqEntry.f a.f0 a.f1 a.f2 a.f0 a.f1 a.f2 = some true := by
  simp [laws_eqEntry.f]
theorem eqLog_self (k : Nat) (a : List En) (hl : a.length ≤ 1048576) (hk : a.length < k) : laws_eqLog.f k a a = some true := by
  unfold laws_eqLog.f
  rw [if_pos rfl]
  obtain ⟨r, hr, h⟩ := loop_inv (fun k (s : Int) => laws_eqLog.l0 k a a s) a.length (fun i s => s = (i : Int)) (fun r => r = true)
    (fun k i s hi h1 => by
      subst h1
      refine .inl ⟨((i + 1 : Nat) : Int), rfl, ?_⟩
      simp only [laws_eqLog.l0]
      rw [if_pos (by omega), if_pos (by omega), if_pos (by omega), eqEntry_self]
      simp only [Option.bind_some, if_true]
      rw [w64 (by omega) (by omega)]
      rfl)
    (fun k s h1 => by
      subst h1
      refine ⟨true, rfl, ?_⟩
      simp only [laws_eqLog.l0]
      rw [if_neg (by omega)]) k 0 rfl hk
  subst hr
  exact h
end Go.Proofs.Ytcoepebmmgcplaa.G.Pure
end

section
namespace Go.Proofs.Ytcoepebmmgcplaa.G.Pure
open Go.RowKit Go.Proofs.Ytcoepebmmgcplaa.G Go.Proofs.YtcoepebmmgcplaaW.PrintWords Go.Proofs.YtcoepebmmgcplaaW.PrintLast Go.Proofs.YtcoepebmmgcplaaW.PrintMore
set_option linter.unusedVariables false
set_option linter.unusedSimpArgs false
def atE (l : List En) (i : Nat) (out : List Int) : Int := impl_Log_up.at l (rd_T40 l (i : Int)) out
def upsStep (l : List En) (i : Nat) (out : List Int) : Option (List Int) :=
  if decide (atE l i out < 0) = (rd_T40 l (i : Int)).f2 then none else if (rd_T40 l (i : Int)).f2 = true then some (out.eraseIdx (atE l i out).toNat) else some (out ++ [(i : Int)])
def ups (l : List En) : Nat → Option (List Int)
  | 0 => some []
  | n + 1 => (ups l n).bind (upsStep l n)
def lastT (l : List En) : Nat → Int
  | 0 => 0
  | n + 1 => (rd_T40 l (n : Int)).f0
def gd (l : List En) : Nat → Bool
  | 0 => true
  | n + 1 => gd l n && impl_Log_up.good (lastT l n) (rd_T40 l (n : Int))
theorem to_eq (l : List En) (n : Nat) : impl_Log_up.to l n = if gd l n = true then (ups l n).map (fun o => (lastT l n, o)) else none := by
  induction n with
  | zero => rfl
  | succ n ih =>
    rw [impl_Log_up.to, ih, ups, gd]
    cases hg : gd l n with
    | false => simp
    | true =>
      cases hu : ups l n with
      | none => simp
      | some o =>
        simp only [if_true, Option.map_some, Option.bind_some, Bool.true_and]
        unfold impl_Log_up.step upsStep atE
        cases hgd : impl_Log_up.good (lastT l n) (rd_T40 l (n : Int)) with
        | false => simp [hgd]
        | true =>
          simp only [hgd, Bool.true_eq_false, if_false, if_true]
          split
          · rfl
          · split <;> rfl
theorem gd_false {l : List En} {i n : Nat} (h : gd l i = false) (hi : i ≤ n) : gd l n = false := by
  induction n with
  | zero => obtain rfl : i = 0 := by omega
            exact h
  | succ n ih =>
    rcases Nat.lt_or_ge i (n + 1) with h1 | h1
    · rw [gd, ih (by omega)]
      rfl
    · obtain rfl : i = n + 1 := by omega
      exact h
theorem ups_none {l : List En} {i n : Nat} (h : ups l i = none) (hi : i ≤ n) : ups l n = none := by
  induction n with
  | zero => obtain rfl : i = 0 := by omega
            exact h
  | succ n ih =>
    rcases Nat.lt_or_ge i (n + 1) with h1 | h1
    · rw [ups, ih (by omega)]
      rfl
    · obtain rfl : i = n + 1 := by omega
      exact h
theorem idxP_none {α : Type} {p : α → Bool} {l : List α} (h : idxP p l < 0) : ∀ x ∈ l, p x = false := by
  have := idxP_nonneg p l
  rw [decide_eq_false (by omega)] at this
  intro x hx
  exact List.any_eq_false.1 this.symm x hx |> (by simpa using ·)
theorem ups_ok {l : List En} {n : Nat} {out : List Int} (h : ups l n = some out) : out.length ≤ n ∧ (∀ x ∈ out, 0 ≤ x ∧ x < (n : Int)) ∧ out.Pairwise (fun a b => (rd_T40 l a).f1 ≠ (rd_T40 l b).f1) := by
  induction n generalizing out with
  | zero =>
    cases h
    simp
  | succ n ih =>
    rw [ups] at h
    obtain ⟨s0, h0, h1⟩ := Option.bind_eq_some_iff.1 h
    obtain ⟨i1, i2, i3⟩ := ih h0
    unfold upsStep at h1
    split at h1
    · cases h1
    · rename_i hne
      split at h1
      · cases h1
        refine ⟨?_, fun x hx => ?_, i3.sublist (List.eraseIdx_sublist ..)⟩
        · have := List.length_eraseIdx_le (l := s0) (i := (atE l n s0).toNat)
          omega
        · have := i2 x (List.mem_of_mem_eraseIdx hx)
          omega
      · rename_i hf
        cases h1
        refine ⟨by simp; omega, fun x hx => ?_, ?_⟩
        · simp only [List.mem_append, List.mem_singleton] at hx
          rcases hx with hx | rfl
          · have := i2 x hx
            omega
          · omega
        · rw [List.pairwise_append]
          refine ⟨i3, by simp, fun a ha b hb => ?_⟩
          simp only [List.mem_singleton] at hb
          subst hb
          have hk : atE l n s0 < 0 := by
            apply Classical.byContradiction
            intro hh
            rw [decide_eq_false hh] at hne
            simp only [Bool.not_eq_true] at hf
            exact hne hf.symm
          have := idxP_none hk a ha
          simpa using this
theorem idxP_take {p : Int → Bool} {out : List Int} {j : Nat} (hj : j < out.length) (hu : ∀ a b (ha : a < out.length) (hb : b < out.length), a < b → p out[a] = true → p out[b] = true → False) : idxP p (out.take (j + 1)) = if p out[j] = true then (j : Int) else idxP p (out.take j) := by
  split
  · rename_i h
    refine idxP_hit (k := j) (y := out[j]) (by rw [List.getElem?_take_of_lt (by omega)]; exact List.getElem?_eq_getElem hj) h (fun a x ha hx => ?_)
    rw [List.getElem?_take_of_lt (by omega)] at hx
    obtain ⟨h1, rfl⟩ := List.getElem?_eq_some_iff.1 hx
    cases hp : p out[a] with
    | false => rfl
    | true => exact (hu a j h1 hj ha hp h).elim
  · rename_i h
    simp only [Bool.not_eq_true] at h
    unfold idxP
    rw [List.take_succ_eq_append_getElem hj, List.findIdx?_append]
    cases e : (out.take j).findIdx? p with
    | some i => simp
    | none => simp [h]
set_option maxHeartbeats 400000 in
theorem specUp_inner {l : List En} {n : Int} {out : List Int} {i : Nat} (hi : i < l.length) (hl : l.length ≤ 60) (ho : out.length ≤ i ∧ (∀ x ∈ out, 0 ≤ x ∧ x < (i : Int)) ∧ out.Pairwise (fun a b => (rd_T40 l a).f1 ≠ (rd_T40 l b).f1)) :
    ∀ (d j K : Nat), j + d = out.length → spec_l07Up.l1 (K + d + 1) l n out (i : Int) (idxP (fun m => (rd_T40 l m).f1 == (rd_T40 l (i : Int)).f1) (out.take j)) (j : Int) = spec_l07Up.l1 (K + 1) l n out (i : Int) (atE l i out) (out.length : Int) := by
  intro d
  induction d with
  | zero =>
    intro j K hj
    obtain rfl : j = out.length := by omega
    rw [List.take_length]
    rfl
  | succ d ih =>
    intro j K hj
    have hjo : j < out.length := by omega
    obtain ⟨h1, h2, h3⟩ := ho
    have hm := h2 out[j] (List.getElem_mem hjo)
    rw [← ih (j + 1) K (by omega), show K + (d + 1) + 1 = (K + d + 1) + 1 by omega]
    conv => lhs; unfold spec_l07Up.l1
    rw [if_pos (by omega), if_pos (by omega), rd_nat hjo, if_pos (by omega), if_pos (by omega), if_pos (by omega), if_pos (by omega), w64 (by omega) (by omega), idxP_take hjo (fun a b ha hb hab pa pb => ?_)]
    · by_cases hq : (rd_T40 l out[j]).f1 = (rd_T40 l (i : Int)).f1
      · rw [if_pos hq, if_pos (by simpa using hq)]
        rfl
      · rw [if_neg hq, if_neg (by simpa using hq)]
        rfl
    · have := List.pairwise_iff_getElem.1 h3 a b ha hb hab
      simp only [beq_iff_eq] at pa pb
      exact this (pa.trans pb.symm)
set_option maxHeartbeats 1000000 in
theorem specUp_outer {l : List En} {n : Nat} (hn : n ≤ l.length) (hl : l.length ≤ 60) : ∀ (d i : Nat) (out : List Int) (K : Nat), i + d = n → ups l i = some out → 70 * (d + 1) ≤ K → spec_l07Up.l0 K l (n : Int) out (i : Int) = some (match ups l n with | some o => (o, true) | none => ([], false)) := by
  intro d
  induction d with
  | zero =>
    intro i out K hi hu hK
    obtain ⟨K, rfl⟩ : ∃ m, K = m + 1 := ⟨K - 1, by omega⟩
    obtain rfl : i = n := by omega
    simp only [spec_l07Up.l0]
    rw [if_neg (by omega), hu]
  | succ d ih =>
    intro i out K hi hu hK
    have ho := ups_ok hu
    obtain ⟨h1, h2, h3⟩ := ho
    obtain ⟨K, rfl⟩ : ∃ m, K = m + out.length + 2 := ⟨K - out.length - 2, by omega⟩
    have hK2 : 70 * (d + 1) ≤ K := by omega
    have hi2 : i + 1 + d = n := by omega
    have hsucc : ((i + 1 : Nat) : Int) = (i : Int) + 1 := by omega
    simp only [spec_l07Up.l0]
    rw [if_pos (by omega)]
    have e := specUp_inner (n := (n : Int)) (l := l) (out := out) (i := i) (by omega) hl ⟨h1, h2, h3⟩ out.length 0 K (by omega)
    rw [show idxP (fun m => (rd_T40 l m).f1 == (rd_T40 l (i : Int)).f1) (out.take 0) = -1 from rfl] at e
    rw [show ((0 : Nat) : Int) = 0 from rfl] at e
    rw [e]
    have hlt := impl_Log_up.idx_lt (fun m => (rd_T40 l m).f1 == (rd_T40 l (i : Int)).f1) out
    have hs : ups l (i + 1) = upsStep l i out := by rw [ups, hu]; rfl
    have hat : idxP (fun m => (rd_T40 l m).f1 == (rd_T40 l (i : Int)).f1) out = atE l i out := rfl
    rw [hat] at hlt
    conv => lhs; unfold spec_l07Up.l1
    rw [if_neg (by omega), if_pos (by omega), if_pos (by omega)]
    unfold upsStep at hs
    by_cases hneg : atE l i out < 0
    · rw [decide_eq_true hneg] at hs
      rw [show decide (atE l i out ≥ 0) = false from decide_eq_false (by omega)]
      cases hf : (rd_T40 l (i : Int)).f2 with
      | true =>
        rw [hf, if_pos rfl] at hs
        rw [if_pos (by rfl), ups_none hs (by omega)]
      | false =>
        rw [hf, if_neg (by simp), if_neg (by simp)] at hs
        rw [if_neg (by simp), if_pos hneg, if_pos (by omega), w64 (by omega) (by omega)]
        have e2 := ih (i + 1) _ K hi2 hs hK2
        rw [hsucc] at e2
        rw [e2]
    · rw [decide_eq_false hneg] at hs
      rw [show decide (atE l i out ≥ 0) = true from decide_eq_true (by omega)]
      cases hf : (rd_T40 l (i : Int)).f2 with
      | false =>
        rw [hf, if_pos rfl] at hs
        rw [if_pos (by rfl), ups_none hs (by omega)]
      | true =>
        rw [hf, if_neg (by simp), if_pos rfl] at hs
        rw [if_neg (by simp), if_neg hneg]
        simp only [Option.bind_some, List.nil_append]
        obtain ⟨q, hq⟩ : ∃ q : Nat, atE l i out = (q : Int) := ⟨(atE l i out).toNat, by omega⟩
        rw [hq] at hs hlt ⊢
        rw [if_pos (by omega), if_pos (by omega), if_pos (by simp; omega), if_pos (by rw [w64 (by omega) (by omega)]; omega), w64 (n := (q : Int) + 1) (by omega) (by omega), if_pos (by omega), if_pos (by simp; omega), w64 (n := (i : Int) + 1) (by omega) (by omega)]
        rw [Int.toNat_natCast, show ((q : Int) + 1).toNat = q + 1 by omega, ← List.eraseIdx_eq_take_drop_succ]
        have e2 := ih (i + 1) (out.eraseIdx q) K hi2 (by rw [hs, Int.toNat_natCast]) hK2
        rw [hsucc] at e2
        rw [e2]
theorem specUp_eq {l : List En} {n K : Nat} (hn : n ≤ l.length) (hl : l.length ≤ 60) (hK : 5000 < K) : spec_l07Up.f K l (n : Int) = some (match ups l n with | some o => (o, true) | none => ([], false)) := by
  unfold spec_l07Up.f
  exact specUp_outer hn hl n 0 [] K (by omega) rfl (by omega)
def validG (l : List En) : Bool := decide (l.length ≤ 60) && gd l l.length && (ups l l.length).isSome
theorem implValid_log {l : List En} (hl : l.length ≤ 1048576) : impl_ValidLog.f l = some (validG l) := by
  unfold impl_ValidLog.f impl_Log_up.f validG
  rw [if_pos hl, to_eq]
  cases hg : gd l l.length with
  | false => simp
  | true =>
    cases hu : ups l l.length with
    | none => simp
    | some o => simp; omega
theorem in_log (n lo hi : Int) : spec_l00In.f n lo hi = some (decide (lo ≤ n) && decide (n ≤ hi)) := by
  unfold spec_l00In.f
  by_cases h : lo ≤ n
  · rw [if_pos h, decide_eq_true h]
    rfl
  · rw [if_neg h, decide_eq_false h]
    rfl
theorem specOk_log {k : Nat} {l : List En} (hk : 6000 < k) : spec_l07Ok.f k l = some (validG l) := by
  unfold spec_l07Ok.f
  by_cases hl : l.length ≤ 60
  · rw [if_neg (by omega)]
    obtain ⟨r, hr, h⟩ := loop_inv2 (fun k (s : Int × Int) => spec_l07Ok.l0 k l s.1 s.2) l.length 5001 (fun i s => s.2 = (i : Int) ∧ s.1 = lastT l i ∧ gd l i = true) (fun r => r = validG l)
      (fun k i s hi hk ⟨h1, h2, h3⟩ => by
        obtain ⟨a, x⟩ := s
        simp only at h1 h2 h3
        subst h1 h2
        simp only [spec_l07Ok.l0]
        rw [if_pos (by omega), if_pos (by omega), in_log]
        simp only [Option.bind_some]
        have hg : gd l (i + 1) = impl_Log_up.good (lastT l i) (rd_T40 l (i : Int)) := by rw [gd, h3]; rfl
        unfold impl_Log_up.good at hg
        have hbad : gd l (i + 1) = false → false = validG l := fun h => by
          unfold validG
          rw [gd_false h (by omega)]
          simp
        cases hb1 : (decide (lastT l i ≤ (rd_T40 l (i : Int)).f0) && decide ((rd_T40 l (i : Int)).f0 ≤ 100000)) with
        | false =>
          rw [hb1] at hg
          exact .inr ⟨false, hbad hg, by simp⟩
        | true =>
          rw [hb1] at hg
          rw [if_pos rfl, in_log]
          simp only [Option.bind_some]
          cases hb2 : (decide (0 ≤ (rd_T40 l (i : Int)).f1) && decide ((rd_T40 l (i : Int)).f1 ≤ 9999)) with
          | false =>
            rw [hb2] at hg
            exact .inr ⟨false, hbad hg, by simp⟩
          | true =>
            rw [hb2] at hg
            refine .inl ⟨((rd_T40 l (i : Int)).f0, ((i + 1 : Nat) : Int)), ⟨rfl, rfl, hg⟩, ?_⟩
            rw [if_pos rfl, w64 (by omega) (by omega)]
            rfl)
      (fun k s hk ⟨h1, h2, h3⟩ => by
        obtain ⟨a, x⟩ := s
        simp only at h1 h2 h3
        subst h1 h2
        refine ⟨validG l, rfl, ?_⟩
        simp only [spec_l07Ok.l0]
        rw [if_neg (by omega), specUp_eq (Nat.le_refl _) hl (by omega)]
        unfold validG
        rw [h3]
        cases ups l l.length <;> simp [hl]) k (0, 0) ⟨rfl, rfl, rfl⟩ (by omega)
    subst hr
    exact h
  · rw [if_pos (by omega)]
    unfold validG
    simp [hl]
end Go.Proofs.Ytcoepebmmgcplaa.G.Pure
end

section
namespace Go.Proofs.Ytcoepebmmgcplaa.G.Pure
open Go.RowKit Go.Proofs.Ytcoepebmmgcplaa.G Go.Proofs.YtcoepebmmgcplaaW.PrintWords Go.Proofs.YtcoepebmmgcplaaW.PrintLast Go.Proofs.YtcoepebmmgcplaaW.PrintMore
set_option linter.unusedVariables false
set_option linter.unusedSimpArgs false
abbrev Gs := List (List En)
def logsOf (l : List (List (S57))) : Gs := l.map fun x => x.map entryOf
theorem rdL_laws {l : List (List (S57))} {i : Nat} (h : i < l.length) : rd_L3 l (i : Int) = l[i] := by
  simp [rd_L3, List.getD_eq_getElem?_getD, List.getElem?_eq_getElem h]
theorem rdL_impl {l : Gs} {i : Nat} (h : i < l.length) : rd_L5 l (i : Int) = l[i] := by
  simp [rd_L5, List.getD_eq_getElem?_getD, List.getElem?_eq_getElem h]
theorem szLogS_ok {k : Nat} {l : List (List (S57))} (hl : l.length ≤ 9223372036854775807) (hi : ∀ x ∈ l, x.length ≤ 9223372036854775807) (hk : 1100000 < k) : ∃ n, laws_szLogS.f k l 1048576 = some n ∧ (n < 0 ∨ ¬ n < 0 ∧ l.length ≤ 1048576 ∧ ∀ x ∈ l, x.length ≤ 1048576) := by
  unfold laws_szLogS.f
  rw [w64 (by omega) (by omega)]
  by_cases h : (1048576 : Int) - (l.length : Int) < 0
  · rw [if_pos h]
    exact ⟨-1, rfl, .inl (by omega)⟩
  · rw [if_neg h]
    obtain ⟨r, hr, h'⟩ := loop_inv (fun k (s : Int × Int) => laws_szLogS.l0 k l s.1 s.2) l.length (fun i s => s.2 = (i : Int) ∧ 0 ≤ s.1 ∧ s.1 ≤ 1048576 ∧ ∀ j (h : j < l.length), j < i → l[j].length ≤ 1048576) (fun n => n < 0 ∨ ¬ n < 0 ∧ l.length ≤ 1048576 ∧ ∀ x ∈ l, x.length ≤ 1048576)
      (fun k i s hil ⟨h1, h2, h3, h4⟩ => by
        obtain ⟨a, x⟩ := s
        simp only at h1 h2 h3 h4
        subst h1
        have hx := hi _ (List.getElem_mem hil)
        simp only [laws_szLogS.l0]
        rw [if_pos (by omega), if_pos (by omega), rdL_laws hil, szLog_eq _ _ h2 h3 hx]
        simp only [Option.bind_some]
        by_cases hneg : a - (l[i].length : Int) < 0
        · rw [if_pos hneg, if_pos (by omega)]
          exact .inr ⟨-1, .inl (by omega), rfl⟩
        · rw [if_neg hneg, if_neg hneg, w64 (by omega) (by omega)]
          refine .inl ⟨(a - (l[i].length : Int), ((i + 1 : Nat) : Int)), ⟨rfl, by simp only; omega, by simp only; omega, fun j hj hji => ?_⟩, rfl⟩
          rcases Nat.lt_succ_iff_lt_or_eq.1 hji with e | e
          · exact h4 j hj e
          · subst e
            omega)
      (fun k s ⟨h1, h2, h3, h4⟩ => by
        obtain ⟨a, x⟩ := s
        simp only at h1 h2 h3 h4
        subst h1
        refine ⟨a, .inr ⟨by omega, by omega, fun x hx => ?_⟩, ?_⟩
        · obtain ⟨j, hj, rfl⟩ := List.mem_iff_getElem.1 hx
          exact h4 j hj hj
        · simp only [laws_szLogS.l0]
          rw [if_neg (by omega)]) k ((1048576 : Int) - (l.length : Int), 0) ⟨rfl, by simp only; omega, by simp only; omega, fun j _ h => absurd h (Nat.not_lt_zero _)⟩ (by omega)
    exact ⟨r, h', hr⟩
theorem toLogS_eq {k : Nat} {l : List (List (S57))} (hl : l.length ≤ 1048576) (hi : ∀ x ∈ l, x.length ≤ 1048576) (hk : 2200000 < k) : laws_toLogS.f k l = some (logsOf l) := by
  unfold laws_toLogS.f
  rw [if_pos (by omega), if_pos (by omega)]
  obtain ⟨r, hr, h⟩ := loop_inv2 (fun k (s : Gs × Int) => laws_toLogS.l0 k l s.1 s.2) l.length 1048577 (fun i s => s.2 = (i : Int) ∧ s.1.length = l.length ∧ s.1.take i = (logsOf l).take i) (fun r => r = logsOf l)
    (fun k i s hil hk ⟨h1, h2, h3⟩ => by
      obtain ⟨acc, x⟩ := s
      simp only at h1 h2 h3
      subst h1
      refine .inl ⟨(acc.set i (l[i].map entryOf), ((i + 1 : Nat) : Int)), ⟨rfl, by simpa using h2, ?_⟩, ?_⟩
      · rw [take_set_succ (by omega), h3, List.take_succ_eq_append_getElem (by simpa [logsOf] using hil)]
        simp [logsOf]
      · simp only [laws_toLogS.l0]
        rw [if_pos (by omega), if_pos (by omega), rdL_laws hil, toLog_eq k _ (hi _ (List.getElem_mem hil)) (by have := hi _ (List.getElem_mem hil); omega)]
        simp only [Option.bind_some]
        rw [if_pos (by omega), w64 (by omega) (by omega)]
        rfl)
    (fun k s hk ⟨h1, h2, h3⟩ => by
      obtain ⟨acc, x⟩ := s
      simp only at h1 h2 h3
      subst h1
      refine ⟨acc, ?_, ?_⟩
      · rw [List.take_of_length_le (by omega), List.take_of_length_le (by simp [logsOf])] at h3
        exact h3
      · simp only [laws_toLogS.l0]
        rw [if_neg (by omega)]) k (List.replicate l.length [], 0) ⟨rfl, by simp, by simp⟩ (by omega)
  subst hr
  simpa using h
theorem eqLogS_self {k : Nat} {l : Gs} (hl : l.length ≤ 1048576) (hi : ∀ x ∈ l, x.length ≤ 1048576) (hk : 2200000 < k) : laws_eqLogS.f k l l = some true := by
  unfold laws_eqLogS.f
  rw [if_pos rfl]
  obtain ⟨r, hr, h⟩ := loop_inv2 (fun k (s : Int) => laws_eqLogS.l0 k l l s) l.length 1048577 (fun i s => s = (i : Int)) (fun r => r = true)
    (fun k i s hil hk h1 => by
      subst h1
      refine .inl ⟨((i + 1 : Nat) : Int), rfl, ?_⟩
      simp only [laws_eqLogS.l0]
      rw [if_pos (by omega), if_pos (by omega), if_pos (by omega), rdL_impl hil, eqLog_self k _ (hi _ (List.getElem_mem hil)) (by have := hi _ (List.getElem_mem hil); omega)]
      simp only [Option.bind_some, if_true]
      rw [w64 (by omega) (by omega)]
      rfl)
    (fun k s hk h1 => by
      subst h1
      refine ⟨true, rfl, ?_⟩
      simp only [laws_eqLogS.l0]
      rw [if_neg (by omega)]) k 0 rfl (by omega)
  subst hr
  exact h
theorem logsOf_len {l : List (List (S57))} (hl : l.length ≤ 1048576) (hi : ∀ x ∈ l, x.length ≤ 1048576) : (logsOf l).length ≤ 1048576 ∧ ∀ x ∈ logsOf l, x.length ≤ 1048576 := by
  refine ⟨by simpa [logsOf] using hl, fun x hx => ?_⟩
  unfold logsOf at hx
  obtain ⟨y, hy, rfl⟩ := List.mem_map.1 hx
  simpa using hi y hy
def codeGs (l : Gs) : Int := if l.all validG = true then (if (decide (1 ≤ (l.length : Int)) && decide ((l.length : Int) ≤ 8)) = true then 0 else 2) else 1
theorem implAllCode {l : Gs} (hi : ∀ x ∈ l, x.length ≤ 1048576) : impl_allCode.f l = some (codeGs l) := by
  unfold impl_allCode.f slices_ContainsFunc_Log_Log__impl_allCode_1.f codeGs
  rw [anyO_eq (p := fun x => impl_allCode_1.f x) (q := fun x => !validG x) (fun x hx => by unfold impl_allCode_1.f; rw [implValid_log (hi x hx)]; rfl)]
  simp only [Option.bind_some]
  cases ha : l.all validG with
  | true =>
    have : l.any (fun x => !validG x) = false := by
      rw [List.any_eq_false]
      intro x hx
      rw [List.all_eq_true.1 ha x hx]
      simp
    rw [this]
    simp only [Bool.false_eq_true, if_false, if_true, impl_size_Log.f, Option.bind_some, impl_Log_up.within]
    cases (decide (1 ≤ (l.length : Int)) && decide ((l.length : Int) ≤ 8)) <;> rfl
  | false =>
    have : l.any (fun x => !validG x) = true := by
      rw [List.any_eq_true]
      obtain ⟨x, hx, h⟩ := List.all_eq_false.1 ha
      exact ⟨x, hx, by simpa using h⟩
    rw [this]
    rfl
theorem specLogs {k : Nat} {l : Gs} (hl : l.length ≤ 1048576) (hk : 1100000 < k) : spec_l07Logs.f k l = some (codeGs l) := by
  unfold spec_l07Logs.f
  obtain ⟨r, hr, h⟩ := loop_inv2 (fun k (s : Int) => spec_l07Logs.l0 k l s) l.length 6001 (fun i s => s = (i : Int) ∧ ∀ j (h : j < l.length), j < i → validG l[j] = true) (fun r => r = codeGs l)
    (fun k i s hil hk ⟨h1, h2⟩ => by
      subst h1
      simp only [spec_l07Logs.l0]
      rw [if_pos (by omega), if_pos (by omega), rdL_impl hil, specOk_log (by omega)]
      simp only [Option.bind_some]
      cases hv : validG l[i] with
      | true =>
        simp only [if_true]
        rw [w64 (by omega) (by omega)]
        refine .inl ⟨((i + 1 : Nat) : Int), ⟨rfl, fun j hj hji => ?_⟩, rfl⟩
        rcases Nat.lt_succ_iff_lt_or_eq.1 hji with e | e
        · exact h2 j hj e
        · subst e
          exact hv
      | false =>
        refine .inr ⟨1, ?_, by simp⟩
        unfold codeGs
        rw [if_neg]
        intro h
        rw [List.all_eq_true.1 h _ (List.getElem_mem hil)] at hv
        cases hv)
    (fun k s hk ⟨h1, h2⟩ => by
      subst h1
      refine ⟨codeGs l, rfl, ?_⟩
      simp only [spec_l07Logs.l0]
      rw [if_neg (by omega), in_log]
      simp only [Option.bind_some]
      unfold codeGs
      rw [if_pos (List.all_eq_true.2 fun x hx => by
        obtain ⟨j, hj, rfl⟩ := List.mem_iff_getElem.1 hx
        exact h2 j hj hj)]
      split <;> rfl) k 0 ⟨rfl, fun j _ h => absurd h (Nat.not_lt_zero _)⟩ (by omega)
  subst hr
  exact h
theorem codeGs_valid {l : Gs} (h : codeGs l = 0) : (∀ x ∈ l, validG x = true) ∧ 1 ≤ l.length ∧ l.length ≤ 8 := by
  unfold codeGs at h
  split at h
  · rename_i ha
    split at h
    · rename_i hb
      simp only [Bool.and_eq_true, decide_eq_true_eq] at hb
      exact ⟨List.all_eq_true.1 ha, by omega, by omega⟩
    · omega
  · omega
end Go.Proofs.Ytcoepebmmgcplaa.G.Pure
end

section
namespace Go.Proofs.Ytcoepebmmgcplaa.G.Pure
open Go.RowKit Go.Proofs.Ytcoepebmmgcplaa.G Go.Proofs.YtcoepebmmgcplaaW.PrintWords Go.Proofs.YtcoepebmmgcplaaW.PrintLast Go.Proofs.YtcoepebmmgcplaaW.PrintMore
set_option linter.unusedVariables false
set_option linter.unusedSimpArgs false
theorem cntE_cons (l : List En) (g : List (List En)) (x : En) : cntE (l :: g) x = (if x ∈ l then 1 else 0) + cntE g x := by
  unfold cntE
  by_cases h : x ∈ l
  · rw [List.filter_cons_of_pos (by simpa using h), if_pos h, List.length_cons, Nat.add_comm]
  · rw [List.filter_cons_of_neg (by simpa using h), if_neg h, Nat.zero_add]
theorem cnt_impl (g : List (List En)) (hg : g.length ≤ 8) (hl : ∀ l ∈ g, l.length ≤ 60) (x : En) (q : Int) (K : Nat) (hK : 200 ≤ K) : impl_AgreedLog_1.f K x.f0 x.f1 x.f2 g q = some (decide ((cntE g x : Int) < q)) := by
  unfold impl_AgreedLog_1.f
  have key : ∀ d j k c, j + d = g.length → 100 + d < k → c ≤ j → impl_AgreedLog_1.l0 k (c : Int) g (g.length : Int) (j : Int) q x.f0 x.f1 x.f2 = some (decide (((c + cntE (g.drop j) x : Nat) : Int) < q)) := by
    intro d
    induction d with
    | zero =>
      intro j k c hj hk hc
      obtain ⟨k, rfl⟩ : ∃ m, k = m + 1 := ⟨k - 1, by omega⟩
      simp only [impl_AgreedLog_1.l0]
      rw [if_neg (by omega), List.drop_eq_nil_of_le (by omega)]
      rw [show cntE [] x = 0 from rfl, Nat.add_zero]
    | succ d ih =>
      intro j k c hj hk hc
      obtain ⟨k, rfl⟩ : ∃ m, k = m + 1 := ⟨k - 1, by omega⟩
      have hjl : j < g.length := by omega
      have hx := hl _ (List.getElem_mem hjl)
      simp only [impl_AgreedLog_1.l0]
      rw [if_pos (by omega), if_pos (by omega), if_pos (by omega), rdL_impl hjl, contains_eq _ (by omega) x k (by omega)]
      simp only [Option.bind_some, decide_eq_true_eq]
      rw [List.drop_eq_getElem_cons hjl, cntE_cons, w64 (n := (j : Int) + 1) (by omega) (by omega), show ((j : Int) + 1) = ((j + 1 : Nat) : Int) by omega]
      by_cases h : x ∈ g[j]
      · rw [if_pos h, if_pos h, w64 (by omega) (by omega), show ((c : Int) + 1) = ((c + 1 : Nat) : Int) by omega, ih (j + 1) k (c + 1) (by omega) (by omega) (by omega), Nat.add_assoc]
      · rw [if_neg h, if_neg h, ih (j + 1) k c (by omega) (by omega) (by omega), Nat.zero_add]
  have := key g.length 0 K 0 (by omega) (by omega) (by omega)
  rw [List.drop_zero, Nat.zero_add] at this
  exact this
end Go.Proofs.Ytcoepebmmgcplaa.G.Pure
end

section
namespace Go.Proofs.Ytcoepebmmgcplaa.G.Pure
open Go.RowKit Go.Proofs.Ytcoepebmmgcplaa.G Go.Proofs.YtcoepebmmgcplaaW.PrintWords Go.Proofs.YtcoepebmmgcplaaW.PrintLast Go.Proofs.YtcoepebmmgcplaaW.PrintMore
set_option linter.unusedVariables false
set_option linter.unusedSimpArgs false
theorem before_eq (x y : En) : spec_l07Before.f x.f0 x.f1 x.f2 y.f0 y.f1 y.f2 = some (decide (eLt x y)) := by
  obtain ⟨a0, a1, a2⟩ := x
  obtain ⟨b0, b1, b2⟩ := y
  unfold spec_l07Before.f eLt
  simp only
  by_cases h0 : a0 = b0
  · rw [if_pos h0]
    by_cases h1 : a1 = b1
    · rw [if_pos h1]
      subst h0 h1
      cases a2 <;> cases b2 <;> simp
    · rw [if_neg h1]
      subst h0
      refine congrArg some (decide_eq_decide.2 ⟨fun h => .inr ⟨rfl, .inl h⟩, fun h => ?_⟩)
      rcases h with h | ⟨_, h | ⟨h, _⟩⟩
      · omega
      · exact h
      · exact absurd h h1
  · rw [if_neg h0]
    refine congrArg some (decide_eq_decide.2 ⟨fun h => .inl h, fun h => ?_⟩)
    rcases h with h | ⟨h, _⟩
    · exact h
    · exact absurd h h0
def insE (x : En) : List En → List En
  | [] => [x]
  | y :: l => if eLt y x then y :: insE x l else x :: y :: l
theorem insE_mem (x y : En) : ∀ l, y ∈ insE x l ↔ y = x ∨ y ∈ l
  | [] => by simp [insE]
  | z :: l => by
    unfold insE
    split
    · rw [List.mem_cons, insE_mem x y l, List.mem_cons]
      constructor
      · rintro (h | h | h)
        · exact .inr (.inl h)
        · exact .inl h
        · exact .inr (.inr h)
      · rintro (h | h | h)
        · exact .inr (.inl h)
        · exact .inl h
        · exact .inr (.inr h)
    · rw [List.mem_cons]
theorem insE_len (x : En) : ∀ l, (insE x l).length = l.length + 1
  | [] => rfl
  | z :: l => by
    unfold insE
    split
    · rw [List.length_cons, insE_len x l, List.length_cons]
    · rfl
theorem insE_pw (x : En) : ∀ l, l.Pairwise eLt → x ∉ l → (insE x l).Pairwise eLt
  | [], _, _ => by simp [insE]
  | z :: l, h, hx => by
    rw [List.pairwise_cons] at h
    rw [List.mem_cons] at hx
    unfold insE
    split
    · rename_i hz
      rw [List.pairwise_cons]
      refine ⟨fun a ha => ?_, insE_pw x l h.2 (fun q => hx (.inr q))⟩
      rcases (insE_mem x a l).1 ha with e | e
      · rw [e]
        exact hz
      · exact h.1 a e
    · rename_i hz
      have hxz : eLt x z := by
        by_cases q : eLt x z
        · exact q
        · exact absurd (eLt_tri q hz) (fun e => hx (.inl e))
      rw [List.pairwise_cons]
      refine ⟨fun a ha => ?_, List.pairwise_cons.2 h⟩
      rcases List.mem_cons.1 ha with e | e
      · rw [e]
        exact hxz
      · exact eLt_trans hxz (h.1 a e)
theorem spec_counts (g : List (List En)) (q : Int) (out : List En) (i m : Int) (x : En) (hg : g.length ≤ 8) (hl : ∀ l ∈ g, l.length ≤ 60) (ho : out.length ≤ 500) (K : Nat) (hK : 600 ≤ K) :
    ∀ d j c, j + d = g.length → c ≤ j → spec_AgreedLog.l2 (K + d + 1) g q out i m (c : Int) (j : Int) x.f0 x.f1 x.f2 = spec_AgreedLog.j5 K g q out i m (decide (((c + cntE (g.drop j) x : Nat) : Int) < q) || decide (x ∈ out)) x.f0 x.f1 x.f2 := by
  intro d
  induction d with
  | zero =>
    intro j c hj hc
    simp only [spec_AgreedLog.l2]
    rw [if_neg (by omega), List.drop_eq_nil_of_le (by omega), show cntE [] x = 0 from rfl, Nat.add_zero, has_eq _ (by omega) x K (by omega)]
    by_cases h : (c : Int) < q
    · rw [if_pos h, decide_eq_true h]
      rfl
    · rw [if_neg h, decide_eq_false h]
      rfl
  | succ d ih =>
    intro j c hj hc
    have hjl : j < g.length := by omega
    have hx := hl _ (List.getElem_mem hjl)
    obtain ⟨Q, hQ⟩ : ∃ Q, Q = K + d + 1 := ⟨_, rfl⟩
    rw [show K + (d + 1) + 1 = Q + 1 by omega]
    simp only [spec_AgreedLog.l2]
    rw [if_pos (by omega), if_pos (by omega), rdL_impl hjl, has_eq _ (by omega) x _ (by omega)]
    simp only [Option.bind_some, decide_eq_true_eq]
    rw [List.drop_eq_getElem_cons hjl, cntE_cons, w64 (n := (j : Int) + 1) (by omega) (by omega), show ((j : Int) + 1) = ((j + 1 : Nat) : Int) by omega]
    by_cases h : x ∈ g[j]
    · rw [if_pos h, if_pos h, w64 (by omega) (by omega), show ((c : Int) + 1) = ((c + 1 : Nat) : Int) by omega, hQ, ih (j + 1) (c + 1) (by omega) (by omega), Nat.add_assoc]
    · rw [if_neg h, if_neg h, hQ, ih (j + 1) c (by omega) (by omega), Nat.zero_add]
theorem spec_places (g : List (List En)) (q : Int) (out : List En) (i : Int) (m : Int) (x : En) (ho : out.length ≤ 500) (K : Nat) :
    ∀ d p, p + d = out.length → ∃ K', K ≤ K' ∧ spec_AgreedLog.l3 (K + d + 1) g q out i m (p : Int) x.f0 x.f1 x.f2 = spec_AgreedLog.l1 K' g q (out.take p ++ insE x (out.drop p)) i (wrap64 (m + 1)) := by
  intro d
  induction d with
  | zero =>
    intro p hp
    refine ⟨K, Nat.le_refl _, ?_⟩
    simp only [spec_AgreedLog.l3]
    rw [if_neg (by omega)]
    simp only [Option.bind_some]
    rw [if_pos (by omega), if_pos (by omega), Int.toNat_natCast, List.drop_eq_nil_of_le (by omega)]
    rw [if_pos (by simp), if_pos (by simp; omega), if_pos (by simp; omega)]
    simp [insE]
  | succ d ih =>
    intro p hp
    have hpl : p < out.length := by omega
    obtain ⟨Q, hQ⟩ : ∃ Q, Q = K + d + 1 := ⟨_, rfl⟩
    rw [show K + (d + 1) + 1 = Q + 1 by omega]
    simp only [spec_AgreedLog.l3]
    rw [if_pos (by omega), if_pos (by omega), rd_impl_Entry hpl, before_eq]
    simp only [Option.bind_some, decide_eq_true_eq]
    rw [List.drop_eq_getElem_cons hpl]
    by_cases h : eLt out[p] x
    · rw [if_pos h, w64 (n := (p : Int) + 1) (by omega) (by omega), show ((p : Int) + 1) = ((p + 1 : Nat) : Int) by omega]
      obtain ⟨K', h1, h2⟩ := ih (p + 1) (by omega)
      refine ⟨K', h1, ?_⟩
      rw [hQ, h2, List.take_succ_eq_append_getElem hpl]
      unfold insE
      rw [if_pos h, List.append_assoc]
      cases out.drop (p + 1) <;> simp [insE]
    · rw [if_neg h]
      refine ⟨Q, by omega, ?_⟩
      rw [if_pos (by omega), Int.toNat_natCast]
      rw [if_pos (by simp; omega), if_pos (by simp; omega), if_pos (by simp; omega), List.drop_eq_getElem_cons hpl]
      unfold insE
      rw [if_neg h]
      simp
end Go.Proofs.Ytcoepebmmgcplaa.G.Pure
end

section
namespace Go.Proofs.Ytcoepebmmgcplaa.G.Pure
open Go.RowKit Go.Proofs.Ytcoepebmmgcplaa.G Go.Proofs.YtcoepebmmgcplaaW.PrintWords Go.Proofs.YtcoepebmmgcplaaW.PrintLast Go.Proofs.YtcoepebmmgcplaaW.PrintMore
set_option linter.unusedVariables false
set_option linter.unusedSimpArgs false
def Kept (g : List (List En)) (q : Int) (i m : Nat) (out : List En) : Prop := out.Pairwise eLt ∧ out.length ≤ 60 * i + m ∧ ∀ x, x ∈ out ↔ (x ∈ (g.take i).flatten ∨ x ∈ (g.getD i []).take m) ∧ ¬ (cntE g x : Int) < q
theorem spec_row (g : List (List En)) (q : Int) (hg : g.length ≤ 8) (hl : ∀ l ∈ g, l.length ≤ 60) (i : Nat) (hi : i < g.length) :
    ∀ d m K out, m + d = g[i].length → 700 * (d + 1) + 600 ≤ K → Kept g q i m out → ∃ K' out', K ≤ K' + 700 * (d + 1) ∧ Kept g q i g[i].length out' ∧ spec_AgreedLog.l1 K g q out (i : Int) (m : Int) = spec_AgreedLog.l0 K' g q out' ((i + 1 : Nat) : Int) := by
  have hil := hl _ (List.getElem_mem hi)
  have hgi : g.getD i [] = g[i] := by rw [List.getD_eq_getElem?_getD, List.getElem?_eq_getElem hi]; rfl
  intro d
  induction d with
  | zero =>
    intro m K out hm hK hk
    obtain ⟨K, rfl⟩ : ∃ n, K = n + 1 := ⟨K - 1, by omega⟩
    refine ⟨K, out, by omega, ?_, ?_⟩
    · rw [show g[i].length = m by omega]
      exact hk
    · simp only [spec_AgreedLog.l1]
      rw [if_pos (by omega), if_pos (by omega), rdL_impl hi, if_neg (by omega), w64 (by omega) (by omega)]
      rfl
  | succ d ih =>
    intro m K out hm hK hk
    obtain ⟨h1, h2, h3⟩ := hk
    have hml : m < g[i].length := by omega
    have hs : ((m + 1 : Nat) : Int) = (m : Int) + 1 := by omega
    obtain ⟨K, rfl⟩ : ∃ n, K = n + 1 := ⟨K - 1, by omega⟩
    obtain ⟨Q, rfl⟩ : ∃ n, K = (n + 1) + g.length + 1 := ⟨K - g.length - 2, by omega⟩
    have htk : ∀ x, x ∈ g[i].take (m + 1) ↔ x ∈ g[i].take m ∨ x = g[i][m] := fun x => by
      rw [List.take_succ_eq_append_getElem hml, List.mem_append, List.mem_singleton]
    rw [show (Q + 1) + g.length + 1 + 1 = ((Q + 1) + g.length + 1) + 1 by omega]
    have e := spec_counts g q out (i : Int) (m : Int) g[i][m] hg hl (by omega) (Q + 1) (by omega) g.length 0 0 (by omega) (by omega)
    rw [show ((0 : Nat) : Int) = 0 from rfl, Nat.zero_add, List.drop_zero] at e
    generalize hR : Q + 1 + g.length + 1 = R at *
    simp only [spec_AgreedLog.l1]
    rw [if_pos (by omega), if_pos (by omega), rdL_impl hi, if_pos (by omega), if_pos (by omega), rd_impl_Entry hml, e]
    simp only [spec_AgreedLog.j5]
    by_cases hc : (cntE g g[i][m] : Int) < q
    · rw [decide_eq_true hc, Bool.true_or, if_pos rfl, w64 (n := (m : Int) + 1) (by omega) (by omega), ← hs]
      obtain ⟨K', out', g1, g2, g3⟩ := ih (m + 1) Q out (by omega) (by omega) ⟨h1, by omega, fun x => by
        rw [h3, hgi, htk]
        refine ⟨fun h => ⟨h.1.imp id .inl, h.2⟩, fun h => ⟨?_, h.2⟩⟩
        rcases h.1 with a | a | a
        · exact .inl a
        · exact .inr a
        · rw [a] at h
          exact absurd hc h.2⟩
      exact ⟨K', out', by omega, g2, g3⟩
    · rw [decide_eq_false hc, Bool.false_or]
      by_cases hx : g[i][m] ∈ out
      · rw [decide_eq_true hx, if_pos rfl, w64 (n := (m : Int) + 1) (by omega) (by omega), ← hs]
        obtain ⟨K', out', g1, g2, g3⟩ := ih (m + 1) Q out (by omega) (by omega) ⟨h1, by omega, fun x => by
          rw [h3, hgi, htk]
          refine ⟨fun h => ⟨h.1.imp id .inl, h.2⟩, fun h => ⟨?_, h.2⟩⟩
          rcases h.1 with a | a | a
          · exact .inl a
          · exact .inr a
          · rw [h3, hgi] at hx
            rw [a]
            exact hx.1⟩
        exact ⟨K', out', by omega, g2, g3⟩
      · rw [decide_eq_false hx, if_neg (by simp)]
        obtain ⟨P, hP⟩ : ∃ n, Q = n + out.length + 1 := ⟨Q - out.length - 1, by omega⟩
        obtain ⟨K1, k1, k2⟩ := spec_places g q out (i : Int) (m : Int) g[i][m] (by omega) P out.length 0 (by omega)
        rw [show ((0 : Nat) : Int) = 0 from rfl] at k2
        rw [hP, k2, List.take_zero, List.drop_zero, List.nil_append, w64 (n := (m : Int) + 1) (by omega) (by omega), ← hs]
        obtain ⟨K', out', g1, g2, g3⟩ := ih (m + 1) K1 (insE g[i][m] out) (by omega) (by omega) ⟨insE_pw _ _ h1 hx, by rw [insE_len]; omega, fun x => by
          rw [insE_mem, h3, hgi, htk]
          constructor
          · rintro (a | ⟨a, b⟩)
            · rw [a]
              exact ⟨.inr (.inr rfl), hc⟩
            · exact ⟨a.imp id .inl, b⟩
          · rintro ⟨a | a | a, b⟩
            · exact .inr ⟨.inl a, b⟩
            · exact .inr ⟨.inr a, b⟩
            · exact .inl a⟩
        exact ⟨K', out', by omega, g2, g3⟩
theorem spec_rounds (g : List (List En)) (q : Int) (hg : g.length ≤ 8) (hl : ∀ l ∈ g, l.length ≤ 60) :
    ∀ d i K out, i + d = g.length → 50000 * d + 10000 ≤ K → Kept g q i 0 out → ∃ K' out', 6001 ≤ K' ∧ Kept g q g.length 0 out' ∧ spec_AgreedLog.l0 K g q out (i : Int) = (if (out'.length : Int) > 60 then some (([] : List En), 3) else (spec_l07Ok.f K' out').bind fun t => if t = true then some (out', 0) else some (([] : List En), 4)) := by
  intro d
  induction d with
  | zero =>
    intro i K out hi hK hk
    obtain ⟨K, rfl⟩ : ∃ n, K = n + 1 := ⟨K - 1, by omega⟩
    rw [show i = g.length by omega] at *
    refine ⟨K, out, by omega, hk, ?_⟩
    simp only [spec_AgreedLog.l0]
    rw [if_neg (by omega)]
  | succ d ih =>
    intro i K out hi hK hk
    have hil : i < g.length := by omega
    have hx := hl _ (List.getElem_mem hil)
    have hgi : g.getD i [] = g[i] := by rw [List.getD_eq_getElem?_getD, List.getElem?_eq_getElem hil]; rfl
    obtain ⟨K, rfl⟩ : ∃ n, K = n + 1 := ⟨K - 1, by omega⟩
    simp only [spec_AgreedLog.l0]
    rw [if_pos (by omega)]
    obtain ⟨K1, out1, g1, g2, g3⟩ := spec_row g q hg hl i hil g[i].length 0 K out (by omega) (by omega) hk
    rw [show ((0 : Nat) : Int) = 0 from rfl] at g3
    rw [g3]
    obtain ⟨K', out', r1, r2, r3⟩ := ih (i + 1) K1 out1 (by omega) (by omega) (by
      obtain ⟨a, b, c⟩ := g2
      refine ⟨a, by omega, fun x => ?_⟩
      rw [c, hgi, List.take_length, List.take_succ_eq_append_getElem hil, List.flatten_append, List.mem_append]
      simp)
    exact ⟨K', out', r1, r2, r3⟩
end Go.Proofs.Ytcoepebmmgcplaa.G.Pure
end

section
namespace Go.Proofs.Ytcoepebmmgcplaa.G.Pure
open Go.RowKit Go.Proofs.Ytcoepebmmgcplaa.G Go.Proofs.YtcoepebmmgcplaaW.PrintWords Go.Proofs.YtcoepebmmgcplaaW.PrintLast Go.Proofs.YtcoepebmmgcplaaW.PrintMore
set_option linter.unusedVariables false
set_option linter.unusedSimpArgs false
def agr (g : List (List En)) (q : Int) : List En := (slices_Compact_Log_Entry.to (slices_SortFunc_Log_Entry__impl_compareEntries.sorted g.flatten) (slices_SortFunc_Log_Entry__impl_compareEntries.sorted g.flatten).length).filter fun x => !decide ((cntE g x : Int) < q)
theorem agr_ok (g : List (List En)) (q : Int) : (agr g q).Pairwise eLt ∧ ∀ x, x ∈ agr g q ↔ x ∈ g.flatten ∧ ¬ (cntE g x : Int) < q := by
  obtain ⟨h1, h2, _⟩ := compact_ok (sorted_pw g.flatten) _ (Nat.le_refl _)
  refine ⟨h1.filter _, fun x => ?_⟩
  unfold agr
  rw [List.mem_filter, h2, List.take_length, sorted_mem]
  simp
def resAgr (g : List (List En)) (q : Int) : List En × Int :=
  if codeGs g = 0 then (if (decide (1 ≤ q) && decide (q ≤ (g.length : Int))) = true then (if (agr g q).length > 60 then ([], 3) else if validG (agr g q) = true then (agr g q, 0) else ([], 4)) else ([], 2)) else ([], codeGs g)
theorem validG_len {l : List En} (h : validG l = true) : l.length ≤ 60 := by
  unfold validG at h
  simp only [Bool.and_eq_true, decide_eq_true_eq] at h
  exact h.1.1
theorem specAgreed (g : List (List En)) (q : Int) (hL : g.length ≤ 1048576) (K : Nat) (hK : 1200000 < K) : spec_AgreedLog.f K g q = some (resAgr g q) := by
  unfold spec_AgreedLog.f resAgr
  rw [specLogs hL (by omega)]
  simp only [Option.bind_some]
  obtain ⟨K, rfl⟩ : ∃ n, K = n + 2 := ⟨K - 2, by omega⟩
  by_cases h0 : codeGs g = 0
  · rw [if_pos h0, if_pos h0, in_log]
    simp only [Option.bind_some]
    cases hb : (decide (1 ≤ q) && decide (q ≤ (g.length : Int))) with
    | false =>
      simp only [spec_AgreedLog.j0, spec_AgreedLog.j1]
      simp
    | true =>
      obtain ⟨hv, hg1, hg⟩ := codeGs_valid h0
      have hl : ∀ l ∈ g, l.length ≤ 60 := fun l h => validG_len (hv l h)
      simp only [spec_AgreedLog.j0, spec_AgreedLog.j1]
      rw [if_neg (by simp), if_pos h0]
      simp only [if_true]
      obtain ⟨K', out', r1, r2, r3⟩ := spec_rounds g q hg hl g.length 0 K [] (by omega) (by omega) ⟨by simp, by simp, fun x => by simp⟩
      rw [show ((0 : Nat) : Int) = 0 from rfl] at r3
      have he : out' = agr g q := by
        obtain ⟨a1, a2⟩ := agr_ok g q
        refine strict_unique _ _ r2.1 a1 (fun x => ?_)
        rw [r2.2.2, a2, List.take_length]
        simp
      rw [r3, he, specOk_log (by omega)]
      simp only [Option.bind_some]
      by_cases hlen : (agr g q).length > 60
      · rw [if_pos (by omega), if_pos hlen]
      · rw [if_neg (by omega), if_neg hlen]
        cases validG (agr g q) <;> rfl
  · rw [if_neg h0, if_neg h0]
    simp only [spec_AgreedLog.j0, spec_AgreedLog.j1]
    rw [if_neg (by simp), if_neg h0]
end Go.Proofs.Ytcoepebmmgcplaa.G.Pure
end

section
namespace Go.Proofs.Ytcoepebmmgcplaa.G.Pure
open Go.RowKit Go.Proofs.Ytcoepebmmgcplaa.G Go.Proofs.YtcoepebmmgcplaaW.PrintWords Go.Proofs.YtcoepebmmgcplaaW.PrintLast Go.Proofs.YtcoepebmmgcplaaW.PrintMore
set_option linter.unusedVariables false
set_option linter.unusedSimpArgs false
theorem firstOf_eq (k : Nat) (a b : Int) (hk : 3 ≤ k) : impl_firstOf.f k [a, b] = some (if a = 0 then b else a) := by
  obtain ⟨k, rfl⟩ : ∃ m, k = m + 3 := ⟨k - 3, by omega⟩
  unfold impl_firstOf.f
  have r0 : rd [a, b] 0 = a := rfl
  have r1 : rd [a, b] 1 = b := rfl
  unfold impl_firstOf.l0
  simp only [List.length_cons, List.length_nil]
  rw [if_pos (by omega), if_pos (by omega), if_pos (by omega), r0]
  by_cases h : a = 0
  · rw [if_pos h, if_pos h, w64 (by omega) (by omega)]
    unfold impl_firstOf.l0
    simp only [List.length_cons, List.length_nil]
    rw [if_pos (by omega), if_pos (by omega), if_pos (by omega), show (0 : Int) + 1 = 1 from rfl, r1]
    by_cases h1 : b = 0
    · rw [if_pos h1, w64 (by omega) (by omega)]
      unfold impl_firstOf.l0
      rw [if_neg (by simp), h1]
    · rw [if_neg h1]
  · rw [if_neg h, if_neg h]
end Go.Proofs.Ytcoepebmmgcplaa.G.Pure
end

section
namespace Go.Proofs.Ytcoepebmmgcplaa.G.Pure
open Go.RowKit Go.Proofs.Ytcoepebmmgcplaa.G Go.Proofs.YtcoepebmmgcplaaW.PrintWords Go.Proofs.YtcoepebmmgcplaaW.PrintLast Go.Proofs.YtcoepebmmgcplaaW.PrintMore
set_option linter.unusedVariables false
set_option linter.unusedSimpArgs false
def markGk (i : Nat) : En := ⟨1 + 3 * (i : Int), 1 + 3 * (i : Int) + 1, Int.tmod (1 + 3 * (i : Int) + 2) 3 == 0⟩
theorem markLogKeep (k : Nat) (a : List En) (hl : a.length ≤ 1048576) (hk : a.length < k) : ∃ l m, laws_markLog.f k a 1 = some (m, l) ∧ (∀ k', a.length < k' → laws_heldLog.f k' l 1 = some m) ∧ 0 ≤ m := by
  obtain ⟨r, ⟨h1, h2, h3⟩, h⟩ := loop_inv (fun k (s : List En × Int × Int) => laws_markLog.l0 k s.1 s.2.1 s.2.2) a.length
    (fun i s => s.2.2 = (i : Int) ∧ s.2.1 = 1 + 3 * (i : Int) ∧ s.1.length = a.length ∧ ∀ j (h : j < s.1.length), j < i → s.1[j] = markGk j)
    (fun r => r.1 = 1 + 3 * (a.length : Int) ∧ r.2.length = a.length ∧ ∀ j (h : j < r.2.length), r.2[j] = markGk j)
    (fun k i s hi ⟨h1, h2, h3, h4⟩ => by
      obtain ⟨acc, m, x⟩ := s
      simp only at h1 h2 h3 h4
      subst h1 h2
      refine .inl ⟨(acc.set i (markGk i), 1 + 3 * ((i + 1 : Nat) : Int), ((i + 1 : Nat) : Int)), ⟨rfl, rfl, by simpa using h3, fun j hj hji => ?_⟩, ?_⟩
      · simp only [List.getElem_set]
        split
        · rename_i e; subst e; rfl
        · simp only [List.length_set] at hj
          exact h4 j hj (by omega)
      · have hia : i < acc.length := by omega
        simp only [laws_markLog.l0]
        rw [if_pos (by omega), if_pos (by omega)]
        simp only [Option.bind_some, Int.toNat_natCast]
        rw [w64 (n := 1 + 3 * (i : Int) + 1) (by omega) (by omega), w64 (n := 1 + 3 * (i : Int) + 1 + 1) (by omega) (by omega), w64 (n := 1 + 3 * (i : Int) + 1 + 1 + 1) (by omega) (by omega), w64 (n := (i : Int) + 1) (by omega) (by omega)]
        simp only [rd_set_Entry, hia, List.set_set, List.length_set]
        rw [show 1 + 3 * (i : Int) + 1 + 1 + 1 = 1 + 3 * ((i + 1 : Nat) : Int) by omega, show 1 + 3 * (i : Int) + 1 + 1 = 1 + 3 * (i : Int) + 2 by omega]
        rfl)
    (fun k s ⟨h1, h2, h3, h4⟩ => by
      obtain ⟨acc, m, x⟩ := s
      simp only at h1 h2 h3 h4
      subst h1 h2
      refine ⟨(1 + 3 * (a.length : Int), acc), ⟨rfl, h3, fun j hj => h4 j hj (by rw [← h3]; exact hj)⟩, ?_⟩
      simp only [laws_markLog.l0]
      rw [if_neg (by omega)]) k (a, 1, 0) ⟨rfl, rfl, rfl, fun j _ h => absurd h (Nat.not_lt_zero _)⟩ hk
  obtain ⟨m, l⟩ := r
  simp only at h1 h2 h3
  refine ⟨l, m, h, fun k' hk' => ?_, by omega⟩
  obtain ⟨r, hr, h'⟩ := loop_inv (fun k (s : Int × Int) => laws_heldLog.l0 k l s.1 s.2) l.length (fun i s => s.2 = (i : Int) ∧ s.1 = 1 + 3 * (i : Int)) (fun r => r = m)
    (fun k i s hi ⟨g1, g2⟩ => by
      obtain ⟨m', x⟩ := s
      simp only at g1 g2
      subst g1 g2
      refine .inl ⟨(1 + 3 * ((i + 1 : Nat) : Int), ((i + 1 : Nat) : Int)), ⟨rfl, rfl⟩, ?_⟩
      simp only [laws_heldLog.l0]
      rw [w64 (n := 1 + 3 * (i : Int) + 1) (by omega) (by omega), w64 (n := 1 + 3 * (i : Int) + 1 + 1) (by omega) (by omega), w64 (n := 1 + 3 * (i : Int) + 1 + 1 + 1) (by omega) (by omega), w64 (n := (i : Int) + 1) (by omega) (by omega)]
      rw [if_pos (by omega), if_pos (by omega), rd_impl_Entry hi, h3 i hi, if_pos (show (markGk i).f0 = 1 + 3 * (i : Int) from rfl), if_pos (show (markGk i).f1 = 1 + 3 * (i : Int) + 1 from rfl), show 1 + 3 * (i : Int) + 1 + 1 = 1 + 3 * (i : Int) + 2 by omega, if_neg (show ¬ ((markGk i).f2 != (Int.tmod (1 + 3 * (i : Int) + 2) 3 == 0)) = true by simp [markGk])]
      rw [show 1 + 3 * (i : Int) + 2 + 1 = 1 + 3 * ((i + 1 : Nat) : Int) by omega]
      rfl)
    (fun k s ⟨g1, g2⟩ => by
      obtain ⟨m', x⟩ := s
      simp only at g1 g2
      subst g1 g2
      refine ⟨m, rfl, ?_⟩
      simp only [laws_heldLog.l0]
      rw [if_neg (by omega), h1, h2]) k' (1, 0) ⟨rfl, rfl⟩ (by omega)
  subst hr
  exact h'
end Go.Proofs.Ytcoepebmmgcplaa.G.Pure
end

section
namespace Go.Proofs.Ytcoepebmmgcplaa.G.Pure
open Go.RowKit Go.Proofs.Ytcoepebmmgcplaa.G Go.Proofs.YtcoepebmmgcplaaW.PrintWords Go.Proofs.YtcoepebmmgcplaaW.PrintLast Go.Proofs.YtcoepebmmgcplaaW.PrintMore
set_option linter.unusedVariables false
set_option linter.unusedSimpArgs false
theorem markLog_from (k : Nat) (a : List En) (m0 : Int) (hl : a.length ≤ 1048576) (hk : a.length < k) (h0 : 0 ≤ m0) (h1 : m0 ≤ 4000000000000000000) : ∃ l m, laws_markLog.f k a m0 = some (m, l) ∧ 0 ≤ m ∧ m ≤ m0 + 4000000 := by
  obtain ⟨r, ⟨h1, h2⟩, h⟩ := loop_inv (fun k (s : List En × Int × Int) => laws_markLog.l0 k s.1 s.2.1 s.2.2) a.length
    (fun i s => s.2.2 = (i : Int) ∧ s.2.1 = m0 + 3 * (i : Int) ∧ s.1.length = a.length)
    (fun r => r.1 = m0 + 3 * (a.length : Int) ∧ True)
    (fun k i s hi ⟨h1, h2, h3⟩ => by
      obtain ⟨acc, m, x⟩ := s
      simp only at h1 h2 h3
      subst h1 h2
      have hia : i < acc.length := by omega
      refine .inl ⟨(acc.set i ⟨m0 + 3 * (i : Int), m0 + 3 * (i : Int) + 1, Int.tmod (m0 + 3 * (i : Int) + 1 + 1) 3 == 0⟩, m0 + 3 * ((i + 1 : Nat) : Int), ((i + 1 : Nat) : Int)), ⟨rfl, rfl, by simpa using h3⟩, ?_⟩
      simp only [laws_markLog.l0]
      rw [if_pos (by omega), if_pos (by omega)]
      simp only [Option.bind_some, Int.toNat_natCast]
      rw [w64 (n := m0 + 3 * (i : Int) + 1) (by omega) (by omega), w64 (n := m0 + 3 * (i : Int) + 1 + 1) (by omega) (by omega), w64 (n := m0 + 3 * (i : Int) + 1 + 1 + 1) (by omega) (by omega), w64 (n := (i : Int) + 1) (by omega) (by omega)]
      simp only [rd_set_Entry, hia, List.set_set, List.length_set]
      rw [show m0 + 3 * (i : Int) + 1 + 1 + 1 = m0 + 3 * ((i + 1 : Nat) : Int) by omega]
      rfl)
    (fun k s ⟨h1, h2, h3⟩ => by
      obtain ⟨acc, m, x⟩ := s
      simp only at h1 h2 h3
      subst h1 h2
      refine ⟨(m0 + 3 * (a.length : Int), acc), ⟨rfl, trivial⟩, ?_⟩
      simp only [laws_markLog.l0]
      rw [if_neg (by omega)]) k (a, m0, 0) ⟨rfl, by simp, rfl⟩ hk
  obtain ⟨m, l⟩ := r
  simp only at h1
  exact ⟨l, m, h, by omega, by omega⟩
end Go.Proofs.Ytcoepebmmgcplaa.G.Pure
end

section
namespace Go.Proofs.Ytcoepebmmgcplaa.G.Pure
open Go.RowKit Go.Proofs.Ytcoepebmmgcplaa.G Go.Proofs.YtcoepebmmgcplaaW.PrintWords Go.Proofs.YtcoepebmmgcplaaW.PrintLast Go.Proofs.YtcoepebmmgcplaaW.PrintMore
set_option linter.unusedVariables false
set_option linter.unusedSimpArgs false
theorem markLogS_from {k : Nat} {a : Gs} (hl : a.length ≤ 1048576) (hi : ∀ x ∈ a, x.length ≤ 1048576) (hk : 2200000 < k) : ∃ l m, laws_markLogS.f k a 1 = some (m, l) ∧ 0 ≤ m := by
  obtain ⟨r, g1, h⟩ := loop_inv2 (fun k (s : Gs × Int × Int) => laws_markLogS.l0 k s.1 s.2.1 s.2.2) a.length 1048577
    (fun i s => s.2.2 = (i : Int) ∧ 0 ≤ s.2.1 ∧ s.2.1 ≤ 1 + 4000000 * (i : Int) ∧ s.1.length = a.length ∧ (∀ j, i ≤ j → s.1[j]? = a[j]?))
    (fun r => 0 ≤ r.1)
    (fun k i s hil hk ⟨h1, h2, h3, h4, h5⟩ => by
      obtain ⟨acc, m, x⟩ := s
      simp only at h1 h2 h3 h4 h5
      subst h1
      have hg : acc.getD (i : Int).toNat [] = a[i] := by
        rw [Int.toNat_natCast, List.getD_eq_getElem?_getD, h5 i (Nat.le_refl _), List.getElem?_eq_getElem hil]
        rfl
      have hai := hi _ (List.getElem_mem hil)
      obtain ⟨l, m', e, e0, e1⟩ := markLog_from k a[i] m hai (by omega) h2 (by omega)
      refine .inl ⟨(acc.set (i : Int).toNat l, m', ((i + 1 : Nat) : Int)), ⟨rfl, e0, by simp only; omega, by simpa using h4, fun j hj => ?_⟩, ?_⟩
      · rw [Int.toNat_natCast, List.getElem?_set_ne (by omega)]
        exact h5 j (by omega)
      · simp only [laws_markLogS.l0]
        rw [if_pos (by omega), if_pos (by omega), hg, e]
        simp only [Option.bind_some]
        rw [w64 (by omega) (by omega)]
        rfl)
    (fun k s hk ⟨h1, h2, h3, h4, h5⟩ => by
      obtain ⟨acc, m, x⟩ := s
      simp only at h1 h2 h3 h4 h5
      subst h1
      refine ⟨(m, acc), h2, ?_⟩
      simp only [laws_markLogS.l0]
      rw [if_neg (by omega)]) k (a, 1, 0) ⟨rfl, by simp only; omega, by simp only; omega, rfl, fun j _ => rfl⟩ (by omega)
  obtain ⟨m, l⟩ := r
  exact ⟨l, m, h, g1⟩
end Go.Proofs.Ytcoepebmmgcplaa.G.Pure
end

section
namespace Go.Proofs.Ytcoepebmmgcplaa.G.Pure
open Go.RowKit Go.Proofs.Ytcoepebmmgcplaa.G Go.Proofs.YtcoepebmmgcplaaW.PrintWords Go.Proofs.YtcoepebmmgcplaaW.PrintLast Go.Proofs.YtcoepebmmgcplaaW.PrintMore
set_option linter.unusedVariables false
set_option linter.unusedSimpArgs false
theorem flat_small {g : List (List En)} (hl : ∀ l ∈ g, l.length ≤ 60) : g.flatten.length ≤ 60 * g.length := by
  induction g with
  | nil => simp
  | cons x g ih =>
    rw [List.flatten_cons, List.length_append, List.length_cons]
    have h1 := hl x List.mem_cons_self
    have h2 := ih (fun l h => hl l (List.mem_cons_of_mem _ h))
    omega
theorem agr_len {g : List (List En)} (hg : g.length ≤ 8) (hl : ∀ l ∈ g, l.length ≤ 60) (q : Int) : (agr g q).length ≤ 1048576 := by
  have h1 := flat_small hl
  unfold agr
  refine Nat.le_trans (List.length_filter_le _ _) ?_
  have h2 : ∀ (l : List En) n, (slices_Compact_Log_Entry.to l n).length ≤ n := fun l n => by
    induction n with
    | zero => simp [slices_Compact_Log_Entry.to]
    | succ n ih =>
      unfold slices_Compact_Log_Entry.to
      split
      · rw [List.length_append, List.length_singleton]
        omega
      · omega
  refine Nat.le_trans (h2 _ _) ?_
  unfold slices_SortFunc_Log_Entry__impl_compareEntries.sorted
  rw [List.length_mergeSort]
  omega
theorem implAgreed (g : List (List En)) (q : Int) (hI : ∀ x ∈ g, x.length ≤ 1048576) (K : Nat) (hK : 1200000 < K) : impl_AgreedLog.f K g q = some (resAgr g q) := by
  unfold impl_AgreedLog.f resAgr
  rw [implAllCode hI]
  simp only [Option.bind_some, impl_size_Log.f, impl_Log_up.within]
  have hu : ∀ b, impl_unless.f b 2 = some (if b = true then 0 else 2) := fun b => by cases b <;> rfl
  rw [hu]
  simp only [Option.bind_some]
  rw [firstOf_eq K _ _ (by omega)]
  simp only [Option.bind_some]
  by_cases h0 : codeGs g = 0
  · rw [if_pos h0, if_pos h0]
    cases hb : (decide (1 ≤ q) && decide (q ≤ (g.length : Int))) with
    | false => simp
    | true =>
      obtain ⟨hv, hg1, hg⟩ := codeGs_valid h0
      have hl : ∀ l ∈ g, l.length ≤ 60 := fun l h => validG_len (hv l h)
      have hf := flat_small hl
      have hal := agr_len hg hl q
      simp only [if_true]
      unfold slices_Concat_Log_Entry.f slices_SortFunc_Log_Entry__impl_compareEntries.f slices_Compact_Log_Entry.f slices_DeleteFunc_Log_Entry__impl_AgreedLog_1.f
      rw [if_pos (by omega)]
      simp only [Option.bind_some]
      rw [if_pos (by omega)]
      simp only [Option.bind_some]
      rw [delO_eq (q := fun x => decide ((cntE g x : Int) < q)) (fun x _ => cnt_impl g hg hl x q K (by omega))]
      simp only [Option.bind_some]
      have hagr : ((slices_Compact_Log_Entry.to (slices_SortFunc_Log_Entry__impl_compareEntries.sorted g.flatten) (slices_SortFunc_Log_Entry__impl_compareEntries.sorted g.flatten).length).filter fun x => !decide ((cntE g x : Int) < q)) = agr g q := rfl
      rw [hagr, implValid_log hal]
      simp only [Option.bind_some]
      by_cases hlen : (agr g q).length > 60
      · rw [if_pos (by omega), if_pos hlen]
      · rw [if_neg (by omega), if_neg hlen]
        cases validG (agr g q) <;> rfl
  · simp only [h0, if_false]
theorem resAgr_len {g : List (List En)} (q : Int) : (resAgr g q).1.length ≤ 1048576 := by
  unfold resAgr
  split
  · split
    · split
      · simp
      · split
        · rename_i h
          have := validG_len h
          simp only
          omega
        · simp
    · simp
  · simp
theorem FnExactAgreedLog (l0 : List (List (S57))) (a1 : Int) (h00 : l0.length ≤ 9223372036854775807) (h01 : (∀ x ∈ l0, (x.length ≤ 9223372036854775807 ∧ ∀ x_ ∈ x, (Lit.int .i64 x_.f0).wf = true ∧ (Lit.int .i64 x_.f1).wf = true ∧ True))) (h10 : (Lit.int .i64 a1).wf = true) : ∃ k, laws_FnExactAgreedLog.f k l0 a1 = some true := by
  obtain ⟨k, hk⟩ : ∃ k, 3000000 < k := ⟨_, Nat.lt_succ_self _⟩
  refine ⟨k + 3, ?_⟩
  obtain ⟨n, hn, hc⟩ := szLogS_ok (k := k + 3) h00 (fun x hx => (h01 x hx).1) (by omega)
  unfold laws_FnExactAgreedLog.f
  rw [hn]
  simp only [Option.bind_some]
  rcases hc with hc | ⟨hn0, hl, hi⟩
  · rw [if_pos hc]
  · rw [if_neg hn0]
    obtain ⟨hL, hI⟩ := logsOf_len hl hi
    have e1 := fun j => toLogS_eq (k := k + j) hl hi (by omega)
    have q1 := fun j => eqLogS_self (k := k + j) hL hI (by omega)
    have s1 := fun j => specAgreed (logsOf l0) a1 hL (k + j) (by omega)
    have i1 := fun j => implAgreed (logsOf l0) a1 hI (k + j) (by omega)
    have hr := resAgr_len (g := logsOf l0) a1
    have t1 := fun j => eqLog_self (k + j) (resAgr (logsOf l0) a1).1 hr (by omega)
    obtain ⟨lm, m0, hm, hm0⟩ := markLogS_from (k := k + 2) hL hI (by omega)
    obtain ⟨l, m', ha, hb, hm1⟩ := markLogKeep (k + 1) (resAgr (logsOf l0) a1).1 hr (by omega)
    have hb0 := hb k (by omega)
    have hb1 := hb (k + 1) (by omega)
    generalize resAgr (logsOf l0) a1 = res at *
    simp [laws_FnExactAgreedLog.j0, laws_FnExactAgreedLog.j1, laws_FnExactAgreedLog.j2, e1, q1, s1, i1, t1, hm, ha, hb0, hb1, Int.not_lt.2 hm0, Int.not_lt.2 hm1, e1 0, i1 0, t1 0, q1 0]
end Go.Proofs.Ytcoepebmmgcplaa.G.Pure
end
