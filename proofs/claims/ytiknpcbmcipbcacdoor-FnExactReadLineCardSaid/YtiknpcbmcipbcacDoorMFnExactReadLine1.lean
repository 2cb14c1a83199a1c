/- The law's functions, their contracts, and the plain lemmas: texts of this claim, laid together. -/
import Derived.Lib.ItoaNum
import Derived.Lib.ParseIntB
import Derived.Lib.Atoi
import Derived.Lib.SplitLaws
import Derived.Test.YtiknpcbmcipbcacDoorMFnExactReadLine0
section
namespace Go.Proofs.YtiknpcbmcipbcacDoor.G
open Go.RowKit Go.Proofs.YtiknpcbmcipbcacDoorW.PrintWords Go.Proofs.YtiknpcbmcipbcacDoorW.PrintLast Go.Proofs.YtiknpcbmcipbcacDoorW.PrintMore
attribute [local go_sem] max2_int min2_int max_two min_two max_three min_three max_four min_four
set_option linter.unusedVariables false
set_option linter.unusedSimpArgs false
def spec_ReadLine.l0 : Nat → List ByteArray → List (S34) → Int → Option ((List (S34)) × Int)
 | 0,_,_,_ => none
 | k + 1,x4,x5,x6 => if x6 < (x4.length : Int) then (if 0 ≤ x6 then ((spec_l01Split.f k (rdOf ByteArray.empty x4 x6) 47).bind fun t112 => (if (t112.length : Int) = 3 then (if 0 < (t112.length : Int) then ((spec_l01Number.f k (rdOf ByteArray.empty t112 0)).bind fun bt119 => (if 1 < (t112.length : Int) then ((spec_l01Number.f k (rdOf ByteArray.empty t112 1)).bind fun bt122 => (if 2 < (t112.length : Int) then ((spec_l01Number.f k (rdOf ByteArray.empty t112 2)).bind fun bt125 => (if bt119.2 = true then (if bt122.2 = true then (if bt125.2 = true then (if bt119.1 > 6 then (some ((([] : List (S34))),5)) else (if bt122.1 > 60 then (some ((([] : List (S34))),5)) else (if bt125.1 > 60 then (some ((([] : List (S34))),5)) else (if x5.length < 46912496118442 then (spec_ReadLine.l0 k x4 (x5 ++ [(⟨IntKind.i8.wrap (bt119.1),IntKind.i8.wrap (bt122.1),IntKind.i8.wrap (bt125.1)⟩ : S34)]) (wrap64 (x6 + 1))) else (none))))) else (some ((([] : List (S34))),5))) else (some ((([] : List (S34))),5))) else (some ((([] : List (S34))),5)))) else (none))) else (none))) else (none)) else (some ((([] : List (S34))),5)))) else (none)) else ((spec_l06Ok.f k x5).bind fun t107 => (if t107 = true then (some (x5,0)) else (some ((([] : List (S34))),5))))
def spec_ReadLine.f (k : Nat) (a0 : ByteArray) : Option ((List (S34)) × Int) := (spec_l01Split.f k a0 32).bind fun t101 => (spec_ReadLine.l0 k t101 (([] : List (S34))) 0)
set_option maxHeartbeats 8000000 in
set_option maxRecDepth 100000 in
theorem spec_ReadLine.calls (k : Nat) (a0 : ByteArray) (r1 : List (S34)) (r2 : Int) (w : World) (h : spec_ReadLine.f k a0 = some (r1,r2)) :
  Calls Tryd.prog 4 #[.string a0] w fun e w' => ∃ v0_ : Value,e = .returned (.tuple #[v0_,.int .i64 r2]) ∧ Kd.R k34 34 w' w.heap.size (fun _ => True) v0_ r1 ∧ Below w.heap.size w w' := by
 have hu34 := Tryd.underlying34;have HB := Aside0.mk (Below.refl w.heap.size w);have H : ((spec_l01Split.f k a0 32).bind fun t101 => (spec_ReadLine.l0 k t101 (([] : List (S34))) 0)) = some (r1,r2) := h;clear h;replace H := Option.bind_eq_some_iff.mp H;obtain ⟨t101,A20,H⟩ := H;replace H : (spec_ReadLine.l0 k t101 (([] : List (S34))) 0) = some (r1,r2) := H;have A2 := Aside0.mk A20;clear A20;obtain ⟨y104,hy104⟩ : ∃ y_ : List (S34),y_ = (([] : List (S34))) := ⟨_,rfl⟩
 replace H : (spec_ReadLine.l0 k t101 y104 0) = some (r1,r2) := by first | (rw [hy104];with_reducible exact H) | (have H2_ := (Option.bind_some _ _).symm.trans H;rw [hy104];with_reducible exact H2_) | (have H2_ := (Option.bind_some _ _).symm.trans H;with_reducible exact H2_) | with_reducible exact H | (rw [hy104];exact H) | exact H
 have Ny104 := Aside0.mk hy104;clear hy104;have H' := Aside0.mk H;clear H
 go_enter Tryd.func4,Tryd.ntmps4
 go_wp2_with (first | ((with_reducible refine gate_callee (f := 9) rfl ?_);refine goesL_ (some 15) rfl rfl Tryd.func9 (by kernel_rfl) rfl #[.string a0,.int .u8 32] rfl (by (try simp only [List.map_toArray,List.map_cons,List.map_nil]);first | done | rfl | (simp only [List.length_drop,List.length_take];rfl)) ?_;(with_reducible refine (spec_l01Split.calls k a0 32 t101 _ A2.out).mono ?_);rintro e w3 ⟨v102,rfl,ho0,hb⟩;refine ⟨_,rfl,?_⟩;have n0_ := Aside0.mk (Kd.R_lower ho0 (below_size (by repeat (first | (with_reducible first | exact HB.out | apply below_alloc | apply pw_below_drewN | apply below_drew1) | exact HB.out))));have n1_ := Aside0.mk (below_step (by repeat (first | (with_reducible first | exact HB.out | apply below_alloc | apply pw_below_drewN | apply below_drew1) | exact HB.out)) hb);clear HB;have HO103 := n0_;have HB := n1_;clear n0_ n1_;(try clear hb);(try clear hb2);(try clear hk);(try clear hi);(try clear ho0)) | ((with_reducible refine gate_dst (N := 16) rfl ?_);refine Kd.R_lit k34 _ 34 ?hg (N := 16) ?hd (xs := ([] : List (S34))) (inner := []) (ok := fun _ => True) (okp := fun _ => True) ?hr ?hp (fun _ hk => hk) trivial (Below.refl _ _) (Nat.le_refl _) (by simp) ?_;(case hd => rfl);(case hg => rfl);(case hr => first | (go_simp;done) | (go_simp;rfl));(case hp => exact (Reps.none _ _));intro v105 w4 ho5 hb hg_ hnew_;clear hg_ hnew_;(first | rw [← Ny104.out] at ho5 | (simp only [Int.reduceToNat] at ho5;rw [← Ny104.out] at ho5));have n0_ := Aside0.mk (Kd.R_below (by (with_reducible repeat (first | apply Kd.R_alloc | apply Kd.R_drewN | apply Kd.R_drew));exact HO103.out) hb);have n1_ := Aside0.mk (Kd.R_lower ho5 (below_size (by repeat (first | (with_reducible first | exact HB.out | apply below_alloc | apply pw_below_drewN | apply below_drew1) | exact HB.out))));have n2_ := Aside0.mk (below_step (by repeat (first | (with_reducible first | exact HB.out | apply below_alloc | apply pw_below_drewN | apply below_drew1) | exact HB.out)) hb);clear HO103;clear HB;have HO103 := n0_;have HO106 := n1_;have HB := n2_;clear n0_ n1_ n2_;clear hb ho5))
 go_loopg [5,6] k (fun kq v5 v6 w' => ∃ (x5_1 : List (S34)) (x6_1 : Int),v6 = .int .i64 x6_1 ∧ Aside0 (spec_ReadLine.l0 kq t101 x5_1 x6_1 = some (r1,r2)) ∧ Aside0 (kq ≤ k) ∧ Aside0 (Kd.R Kd.string 9 w' w.heap.size (fun _ => True) v102 t101) ∧ Aside0 (Kd.R k34 34 w' w.heap.size (fun _ => True) v5 x5_1) ∧ Aside0 (Below w.heap.size w w'))
 case atStart => exact ⟨(y104),(0),(by first | rfl | (simp only [IntKind.wrap_i64,wrap64];done) | (simp;done) | (simp [*];done)),H',⟨Nat.le_refl _⟩,⟨by (with_reducible repeat (first | apply Kd.R_alloc | apply Kd.R_drewN | apply Kd.R_drew));exact HO103.out⟩,⟨by (with_reducible repeat (first | apply Kd.R_alloc | apply Kd.R_drewN | apply Kd.R_drew));exact HO106.out⟩,⟨by repeat (first | (with_reducible first | exact HB.out | apply below_alloc | apply pw_below_drewN | apply below_drew1) | exact HB.out)⟩⟩
 case round =>
  clear H';(try clear p2);(try clear c4);obtain ⟨x5_1,x6_1,rfl,HA,HK1,HO_4,HO_5,HB⟩ := hrel
  cases gk with
  | zero => exact absurd HA.out (by simp [spec_ReadLine.l0])
  | succ k1 =>
   have H := HA.out;clear HA;simp only [spec_ReadLine.l0] at H
   by_cases c6 : x6_1 < (t101.length : Int)
   ·rw [if_pos c6] at H;have c6b0 : decide (x6_1 < (t101.length : Int)) = true := decide_eq_true c6;clear c6
    by_cases c7 : 0 ≤ x6_1
    ·rw [if_pos c7] at H;have c7b0 : decide (0 ≤ x6_1) = true := decide_eq_true c7;clear c7;replace H := Option.bind_eq_some_iff.mp H;obtain ⟨t112,A80,H⟩ := H;replace H : (if (t112.length : Int) = 3 then (if 0 < (t112.length : Int) then ((spec_l01Number.f k1 (rdOf ByteArray.empty t112 0)).bind fun bt119 => (if 1 < (t112.length : Int) then ((spec_l01Number.f k1 (rdOf ByteArray.empty t112 1)).bind fun bt122 => (if 2 < (t112.length : Int) then ((spec_l01Number.f k1 (rdOf ByteArray.empty t112 2)).bind fun bt125 => (if bt119.2 = true then (if bt122.2 = true then (if bt125.2 = true then (if bt119.1 > 6 then (some ((([] : List (S34))),5)) else (if bt122.1 > 60 then (some ((([] : List (S34))),5)) else (if bt125.1 > 60 then (some ((([] : List (S34))),5)) else (if x5_1.length < 46912496118442 then (spec_ReadLine.l0 k1 t101 (x5_1 ++ [(⟨IntKind.i8.wrap (bt119.1),IntKind.i8.wrap (bt122.1),IntKind.i8.wrap (bt125.1)⟩ : S34)]) (wrap64 (x6_1 + 1))) else (none))))) else (some ((([] : List (S34))),5))) else (some ((([] : List (S34))),5))) else (some ((([] : List (S34))),5)))) else (none))) else (none))) else (none)) else (some ((([] : List (S34))),5))) = some (r1,r2) := H;have A8 := Aside0.mk A80;clear A80
     by_cases c9 : (t112.length : Int) = 3
     ·rw [if_pos c9] at H;have c9b0 : ((t112.length : Int) == 3) = true := beq_iff_eq.mpr c9;have c9b1 : ((t112.length : Int) != 3) = false := bne_eq_false_iff_eq.mpr c9;clear c9
      by_cases c10 : 0 < (t112.length : Int)
      ·rw [if_pos c10] at H;have c10b0 : decide (0 < (t112.length : Int)) = true := decide_eq_true c10;have c10b1 : decide (0 < t112.length) = true := decide_eq_true (by omega);clear c10;replace H := Option.bind_eq_some_iff.mp H;obtain ⟨⟨t119,t120⟩,A110,H⟩ := H;replace H : (if 1 < (t112.length : Int) then ((spec_l01Number.f k1 (rdOf ByteArray.empty t112 1)).bind fun bt122 => (if 2 < (t112.length : Int) then ((spec_l01Number.f k1 (rdOf ByteArray.empty t112 2)).bind fun bt125 => (if t120 = true then (if bt122.2 = true then (if bt125.2 = true then (if t119 > 6 then (some ((([] : List (S34))),5)) else (if bt122.1 > 60 then (some ((([] : List (S34))),5)) else (if bt125.1 > 60 then (some ((([] : List (S34))),5)) else (if x5_1.length < 46912496118442 then (spec_ReadLine.l0 k1 t101 (x5_1 ++ [(⟨IntKind.i8.wrap (t119),IntKind.i8.wrap (bt122.1),IntKind.i8.wrap (bt125.1)⟩ : S34)]) (wrap64 (x6_1 + 1))) else (none))))) else (some ((([] : List (S34))),5))) else (some ((([] : List (S34))),5))) else (some ((([] : List (S34))),5)))) else (none))) else (none)) = some (r1,r2) := H;have A11 := Aside0.mk A110;clear A110
       by_cases c12 : 1 < (t112.length : Int)
       ·rw [if_pos c12] at H;have c12b0 : decide (1 < (t112.length : Int)) = true := decide_eq_true c12;have c12b1 : decide (1 < t112.length) = true := decide_eq_true (by omega);clear c12;replace H := Option.bind_eq_some_iff.mp H;obtain ⟨⟨t122,t123⟩,A130,H⟩ := H;replace H : (if 2 < (t112.length : Int) then ((spec_l01Number.f k1 (rdOf ByteArray.empty t112 2)).bind fun bt125 => (if t120 = true then (if t123 = true then (if bt125.2 = true then (if t119 > 6 then (some ((([] : List (S34))),5)) else (if t122 > 60 then (some ((([] : List (S34))),5)) else (if bt125.1 > 60 then (some ((([] : List (S34))),5)) else (if x5_1.length < 46912496118442 then (spec_ReadLine.l0 k1 t101 (x5_1 ++ [(⟨IntKind.i8.wrap (t119),IntKind.i8.wrap (t122),IntKind.i8.wrap (bt125.1)⟩ : S34)]) (wrap64 (x6_1 + 1))) else (none))))) else (some ((([] : List (S34))),5))) else (some ((([] : List (S34))),5))) else (some ((([] : List (S34))),5)))) else (none)) = some (r1,r2) := H;have A13 := Aside0.mk A130;clear A130
        by_cases c14 : 2 < (t112.length : Int)
        ·rw [if_pos c14] at H;have c14b0 : decide (2 < (t112.length : Int)) = true := decide_eq_true c14;have c14b1 : decide (2 < t112.length) = true := decide_eq_true (by omega);clear c14;replace H := Option.bind_eq_some_iff.mp H;obtain ⟨⟨t125,t126⟩,A150,H⟩ := H;replace H : (if t120 = true then (if t123 = true then (if t126 = true then (if t119 > 6 then (some ((([] : List (S34))),5)) else (if t122 > 60 then (some ((([] : List (S34))),5)) else (if t125 > 60 then (some ((([] : List (S34))),5)) else (if x5_1.length < 46912496118442 then (spec_ReadLine.l0 k1 t101 (x5_1 ++ [(⟨IntKind.i8.wrap (t119),IntKind.i8.wrap (t122),IntKind.i8.wrap (t125)⟩ : S34)]) (wrap64 (x6_1 + 1))) else (none))))) else (some ((([] : List (S34))),5))) else (some ((([] : List (S34))),5))) else (some ((([] : List (S34))),5))) = some (r1,r2) := H;have A15 := Aside0.mk A150;clear A150
         by_cases c16 : t120 = true
         ·subst c16
          have H1 : (if t123 = true then (if t126 = true then (if t119 > 6 then (some ((([] : List (S34))),5)) else (if t122 > 60 then (some ((([] : List (S34))),5)) else (if t125 > 60 then (some ((([] : List (S34))),5)) else (if x5_1.length < 46912496118442 then (spec_ReadLine.l0 k1 t101 (x5_1 ++ [(⟨IntKind.i8.wrap (t119),IntKind.i8.wrap (t122),IntKind.i8.wrap (t125)⟩ : S34)]) (wrap64 (x6_1 + 1))) else (none))))) else (some ((([] : List (S34))),5))) else (some ((([] : List (S34))),5))) = some (r1,r2) := by rw [if_pos rfl] at H;exact H
          clear H;have H := H1;clear H1
          by_cases c17 : t123 = true
          ·subst c17
           have H1 : (if t126 = true then (if t119 > 6 then (some ((([] : List (S34))),5)) else (if t122 > 60 then (some ((([] : List (S34))),5)) else (if t125 > 60 then (some ((([] : List (S34))),5)) else (if x5_1.length < 46912496118442 then (spec_ReadLine.l0 k1 t101 (x5_1 ++ [(⟨IntKind.i8.wrap (t119),IntKind.i8.wrap (t122),IntKind.i8.wrap (t125)⟩ : S34)]) (wrap64 (x6_1 + 1))) else (none))))) else (some ((([] : List (S34))),5))) = some (r1,r2) := by rw [if_pos rfl] at H;exact H
           clear H;have H := H1;clear H1
           by_cases c18 : t126 = true
           ·subst c18
            have H1 : (if t119 > 6 then (some ((([] : List (S34))),5)) else (if t122 > 60 then (some ((([] : List (S34))),5)) else (if t125 > 60 then (some ((([] : List (S34))),5)) else (if x5_1.length < 46912496118442 then (spec_ReadLine.l0 k1 t101 (x5_1 ++ [(⟨IntKind.i8.wrap (t119),IntKind.i8.wrap (t122),IntKind.i8.wrap (t125)⟩ : S34)]) (wrap64 (x6_1 + 1))) else (none))))) = some (r1,r2) := by rw [if_pos rfl] at H;exact H
            clear H;have H := H1;clear H1
            by_cases c19 : t119 > 6
            ·rw [if_pos c19] at H;have c19b0 : decide (6 < t119) = true := decide_eq_true c19;clear c19;obtain ⟨y127,hy127⟩ : ∃ y_ : List (S34),y_ = (([] : List (S34))) := ⟨_,rfl⟩
             replace H : (some (y127,5)) = some (r1,r2) := by first | (rw [hy127];with_reducible exact H) | (have H2_ := (Option.bind_some _ _).symm.trans H;rw [hy127];with_reducible exact H2_) | (have H2_ := (Option.bind_some _ _).symm.trans H;with_reducible exact H2_) | with_reducible exact H | (rw [hy127];exact H) | exact H
             have Ny127 := Aside0.mk hy127;clear hy127;simp only [Option.some.injEq,Prod.mk.injEq] at H;obtain ⟨rfl,rfl⟩ := H;obtain ⟨Ao20,co20,eo20⟩ := Kd.R_slice HO_4.out;subst eo20;have p111 : 0 ≤ (x6_1 : Int) := of_decide_eq_true (by first | (with_reducible assumption) | assumption);have q111 : x6_1 < (t101.length : Int) := of_decide_eq_true (by first | (with_reducible assumption) | assumption);obtain ⟨ad111,e111,hx111_0⟩ := Kd.at_string (Kd.R_reads' HO_4.out).2.2 x6_1 p111 q111;cases e111;replace p111 := eq_true p111;replace q111 := eq_true q111
             go_wp2_with (first | ((with_reducible refine gate_callee (f := 9) rfl ?_);refine goesL_ (some 27) rfl rfl Tryd.func9 (by kernel_rfl) rfl #[.string (rdOf ByteArray.empty t101 x6_1),.int .u8 47] rfl (by (try simp only [List.map_toArray,List.map_cons,List.map_nil]);first | done | rfl | (simp only [List.length_drop,List.length_take];rfl)) ?_;(with_reducible refine (spec_l01Split.calls k1 (rdOf ByteArray.empty t101 x6_1) 47 t112 _ A8.out).mono ?_);rintro e w21 ⟨v113,rfl,ho0,hb⟩;refine ⟨_,rfl,?_⟩;have n0_ := Aside0.mk (Kd.R_elder' (by (with_reducible repeat (first | apply Kd.R_alloc | apply Kd.R_drewN | apply Kd.R_drew));exact HO_4.out) (Kd.R_base ho0) hb);have n1_ := Aside0.mk (Kd.R_below (by (with_reducible repeat (first | apply Kd.R_alloc | apply Kd.R_drewN | apply Kd.R_drew));exact HO_5.out) hb);have n2_ := Aside0.mk (Kd.R_lower (Kd.R_new' ho0 (Kd.R_lt (by (with_reducible repeat (first | apply Kd.R_alloc | apply Kd.R_drewN | apply Kd.R_drew));exact HO_4.out))) (below_size (by repeat (first | (with_reducible first | exact HB.out | apply below_alloc | apply pw_below_drewN | apply below_drew1) | exact HB.out))));have n3_ := Aside0.mk (below_step (by repeat (first | (with_reducible first | exact HB.out | apply below_alloc | apply pw_below_drewN | apply below_drew1) | exact HB.out)) hb);clear HO_4;clear HO_5;clear HB;have HO_4 := n0_;have HO_5 := n1_;have HO114 := n2_;have HB := n3_;clear n0_ n1_ n2_ n3_;(try clear hb);(try clear hb2);(try clear hk);(try clear hi);(try clear ho0);obtain ⟨Ao22,co22,eo22⟩ := Kd.R_slice HO114.out;subst eo22;have p118 : 0 ≤ (0 : Int) := (by omega);have q118 : 0 < (t112.length : Int) := of_decide_eq_true (by first | (with_reducible assumption) | assumption);obtain ⟨ad118,e118,hx118_0⟩ := Kd.at_string (Kd.R_reads' HO114.out).2.2 0 p118 q118;cases e118;have qi118 : (0 < t112.length) = True := eq_true (by omega);(try rw [show ((0 : Int)).toNat = 0 from rfl] at hx118_0);(try rw [Addr.add_zero'] at hx118_0);replace p118 := eq_true p118;replace q118 := eq_true q118) | ((with_reducible refine gate_callee (f := 10) rfl ?_);refine goesL_ (some 36) rfl rfl Tryd.func10 (by kernel_rfl) rfl #[.string (rdOf ByteArray.empty t112 0)] rfl (by (try simp only [List.map_toArray,List.map_cons,List.map_nil]);first | done | rfl | (simp only [List.length_drop,List.length_take];rfl)) ?_;(with_reducible refine (spec_l01Number.calls k1 (rdOf ByteArray.empty t112 0) t119 true _ A11.out).mono ?_);rintro e w' ⟨rfl,⟨nd,rfl⟩⟩;refine ⟨_,rfl,?_⟩;have p121 : 0 ≤ (1 : Int) := (by omega);have q121 : 1 < (t112.length : Int) := of_decide_eq_true (by first | (with_reducible assumption) | assumption);obtain ⟨ad121,e121,hx121_0⟩ := Kd.at_string (Kd.R_reads' HO114.out).2.2 1 p121 q121;obtain rfl : ad118 = ad121 := (by injection e121);(try simp only [show (1 : Int).toNat = 1 from rfl,Nat.reduceMul,Nat.reduceEqDiff,Go.Addr.add,↓reduceIte] at hx121_0);have qi121 : (1 < t112.length) = True := eq_true (by omega);(try rw [show ((1 : Int)).toNat = 1 from rfl] at hx121_0);replace p121 := eq_true p121;replace q121 := eq_true q121) | ((with_reducible refine gate_callee (f := 10) rfl ?_);refine goesL_ (some 43) rfl rfl Tryd.func10 (by kernel_rfl) rfl #[.string (rdOf ByteArray.empty t112 1)] rfl (by (try simp only [List.map_toArray,List.map_cons,List.map_nil]);first | done | rfl | (simp only [List.length_drop,List.length_take];rfl)) ?_;(with_reducible refine (spec_l01Number.calls k1 (rdOf ByteArray.empty t112 1) t122 true _ A13.out).mono ?_);rintro e w' ⟨rfl,⟨nd,rfl⟩⟩;refine ⟨_,rfl,?_⟩;have p124 : 0 ≤ (2 : Int) := (by omega);have q124 : 2 < (t112.length : Int) := of_decide_eq_true (by first | (with_reducible assumption) | assumption);obtain ⟨ad124,e124,hx124_0⟩ := Kd.at_string (Kd.R_reads' HO114.out).2.2 2 p124 q124;obtain rfl : ad118 = ad124 := (by injection e124);(try simp only [show (2 : Int).toNat = 2 from rfl,Nat.reduceMul,Nat.reduceEqDiff,Go.Addr.add,↓reduceIte] at hx124_0);have qi124 : (2 < t112.length) = True := eq_true (by omega);(try rw [show ((2 : Int)).toNat = 2 from rfl] at hx124_0);replace p124 := eq_true p124;replace q124 := eq_true q124) | ((with_reducible refine gate_callee (f := 10) rfl ?_);refine goesL_ (some 50) rfl rfl Tryd.func10 (by kernel_rfl) rfl #[.string (rdOf ByteArray.empty t112 2)] rfl (by (try simp only [List.map_toArray,List.map_cons,List.map_nil]);first | done | rfl | (simp only [List.length_drop,List.length_take];rfl)) ?_;(with_reducible refine (spec_l01Number.calls k1 (rdOf ByteArray.empty t112 2) t125 true _ A15.out).mono ?_);rintro e w' ⟨rfl,⟨nd,rfl⟩⟩;refine ⟨_,rfl,?_⟩) | ((with_reducible refine gate_dst (N := 75) rfl ?_);refine Kd.R_lit k34 _ 34 ?hg (N := 75) ?hd (xs := ([] : List (S34))) (inner := []) (ok := fun _ => True) (okp := fun _ => True) ?hr ?hp (fun _ hk => hk) trivial (Below.refl _ _) (Nat.le_refl _) (by simp) ?_;(case hd => rfl);(case hg => rfl);(case hr => first | (go_simp;done) | (go_simp;rfl));(case hp => exact (Reps.none _ _));intro v128 w23 ho24 hb hg_ hnew_;clear hg_ hnew_;(first | rw [← Ny127.out] at ho24 | (simp only [Int.reduceToNat] at ho24;rw [← Ny127.out] at ho24));have n0_ := Aside0.mk (Kd.R_below (by (with_reducible repeat (first | apply Kd.R_alloc | apply Kd.R_drewN | apply Kd.R_drew));exact HO_4.out) hb);have n1_ := Aside0.mk (Kd.R_elder' (by (with_reducible repeat (first | apply Kd.R_alloc | apply Kd.R_drewN | apply Kd.R_drew));exact HO_5.out) (Kd.R_base ho24) hb);have n2_ := Aside0.mk (Kd.R_below (by (with_reducible repeat (first | apply Kd.R_alloc | apply Kd.R_drewN | apply Kd.R_drew));exact HO114.out) hb);have n3_ := Aside0.mk (Kd.R_lower (Kd.R_new' ho24 (Kd.R_lt (by (with_reducible repeat (first | apply Kd.R_alloc | apply Kd.R_drewN | apply Kd.R_drew));exact HO_5.out))) (below_size (by repeat (first | (with_reducible first | exact HB.out | apply below_alloc | apply pw_below_drewN | apply below_drew1) | exact HB.out))));have n4_ := Aside0.mk (below_step (by repeat (first | (with_reducible first | exact HB.out | apply below_alloc | apply pw_below_drewN | apply below_drew1) | exact HB.out)) hb);clear HO_4;clear HO_5;clear HO114;clear HB;have HO_4 := n0_;have HO_5 := n1_;have HO114 := n2_;have HO129 := n3_;have HB := n4_;clear n0_ n1_ n2_ n3_ n4_;clear hb ho24))
             go_ret2
             exact ⟨_,by first | rfl | (simp [errW_none,errW_some,IntKind.wrap_i64,wrap64];done) | (simp [errW_none,errW_some] <;> rfl) | (simp [*,errW_none,errW_some] <;> rfl),by (with_reducible repeat (first | apply Kd.R_alloc | apply Kd.R_drewN | apply Kd.R_drew));exact Kd.R_mono HO129.out (fun _ hk => trivial),by repeat (first | (with_reducible first | exact HB.out | apply below_alloc | apply pw_below_drewN | apply below_drew1) | exact HB.out)⟩
            ·rw [if_neg c19] at H;have c19b0 : decide (6 < t119) = false := decide_eq_false c19;clear c19
             by_cases c25 : t122 > 60
             ·rw [if_pos c25] at H;have c25b0 : decide (60 < t122) = true := decide_eq_true c25;clear c25;obtain ⟨y130,hy130⟩ : ∃ y_ : List (S34),y_ = (([] : List (S34))) := ⟨_,rfl⟩
              replace H : (some (y130,5)) = some (r1,r2) := by first | (rw [hy130];with_reducible exact H) | (have H2_ := (Option.bind_some _ _).symm.trans H;rw [hy130];with_reducible exact H2_) | (have H2_ := (Option.bind_some _ _).symm.trans H;with_reducible exact H2_) | with_reducible exact H | (rw [hy130];exact H) | exact H
              have Ny130 := Aside0.mk hy130;clear hy130;simp only [Option.some.injEq,Prod.mk.injEq] at H;obtain ⟨rfl,rfl⟩ := H;obtain ⟨Ao26,co26,eo26⟩ := Kd.R_slice HO_4.out;subst eo26;have p111 : 0 ≤ (x6_1 : Int) := of_decide_eq_true (by first | (with_reducible assumption) | assumption);have q111 : x6_1 < (t101.length : Int) := of_decide_eq_true (by first | (with_reducible assumption) | assumption);obtain ⟨ad111,e111,hx111_0⟩ := Kd.at_string (Kd.R_reads' HO_4.out).2.2 x6_1 p111 q111;cases e111;replace p111 := eq_true p111;replace q111 := eq_true q111
              go_wp2_with (first | ((with_reducible refine gate_callee (f := 9) rfl ?_);refine goesL_ (some 27) rfl rfl Tryd.func9 (by kernel_rfl) rfl #[.string (rdOf ByteArray.empty t101 x6_1),.int .u8 47] rfl (by (try simp only [List.map_toArray,List.map_cons,List.map_nil]);first | done | rfl | (simp only [List.length_drop,List.length_take];rfl)) ?_;(with_reducible refine (spec_l01Split.calls k1 (rdOf ByteArray.empty t101 x6_1) 47 t112 _ A8.out).mono ?_);rintro e w27 ⟨v113,rfl,ho0,hb⟩;refine ⟨_,rfl,?_⟩;have n0_ := Aside0.mk (Kd.R_elder' (by (with_reducible repeat (first | apply Kd.R_alloc | apply Kd.R_drewN | apply Kd.R_drew));exact HO_4.out) (Kd.R_base ho0) hb);have n1_ := Aside0.mk (Kd.R_below (by (with_reducible repeat (first | apply Kd.R_alloc | apply Kd.R_drewN | apply Kd.R_drew));exact HO_5.out) hb);have n2_ := Aside0.mk (Kd.R_lower (Kd.R_new' ho0 (Kd.R_lt (by (with_reducible repeat (first | apply Kd.R_alloc | apply Kd.R_drewN | apply Kd.R_drew));exact HO_4.out))) (below_size (by repeat (first | (with_reducible first | exact HB.out | apply below_alloc | apply pw_below_drewN | apply below_drew1) | exact HB.out))));have n3_ := Aside0.mk (below_step (by repeat (first | (with_reducible first | exact HB.out | apply below_alloc | apply pw_below_drewN | apply below_drew1) | exact HB.out)) hb);clear HO_4;clear HO_5;clear HB;have HO_4 := n0_;have HO_5 := n1_;have HO114 := n2_;have HB := n3_;clear n0_ n1_ n2_ n3_;(try clear hb);(try clear hb2);(try clear hk);(try clear hi);(try clear ho0);obtain ⟨Ao28,co28,eo28⟩ := Kd.R_slice HO114.out;subst eo28;have p118 : 0 ≤ (0 : Int) := (by omega);have q118 : 0 < (t112.length : Int) := of_decide_eq_true (by first | (with_reducible assumption) | assumption);obtain ⟨ad118,e118,hx118_0⟩ := Kd.at_string (Kd.R_reads' HO114.out).2.2 0 p118 q118;cases e118;have qi118 : (0 < t112.length) = True := eq_true (by omega);(try rw [show ((0 : Int)).toNat = 0 from rfl] at hx118_0);(try rw [Addr.add_zero'] at hx118_0);replace p118 := eq_true p118;replace q118 := eq_true q118) | ((with_reducible refine gate_callee (f := 10) rfl ?_);refine goesL_ (some 36) rfl rfl Tryd.func10 (by kernel_rfl) rfl #[.string (rdOf ByteArray.empty t112 0)] rfl (by (try simp only [List.map_toArray,List.map_cons,List.map_nil]);first | done | rfl | (simp only [List.length_drop,List.length_take];rfl)) ?_;(with_reducible refine (spec_l01Number.calls k1 (rdOf ByteArray.empty t112 0) t119 true _ A11.out).mono ?_);rintro e w' ⟨rfl,⟨nd,rfl⟩⟩;refine ⟨_,rfl,?_⟩;have p121 : 0 ≤ (1 : Int) := (by omega);have q121 : 1 < (t112.length : Int) := of_decide_eq_true (by first | (with_reducible assumption) | assumption);obtain ⟨ad121,e121,hx121_0⟩ := Kd.at_string (Kd.R_reads' HO114.out).2.2 1 p121 q121;obtain rfl : ad118 = ad121 := (by injection e121);(try simp only [show (1 : Int).toNat = 1 from rfl,Nat.reduceMul,Nat.reduceEqDiff,Go.Addr.add,↓reduceIte] at hx121_0);have qi121 : (1 < t112.length) = True := eq_true (by omega);(try rw [show ((1 : Int)).toNat = 1 from rfl] at hx121_0);replace p121 := eq_true p121;replace q121 := eq_true q121) | ((with_reducible refine gate_callee (f := 10) rfl ?_);refine goesL_ (some 43) rfl rfl Tryd.func10 (by kernel_rfl) rfl #[.string (rdOf ByteArray.empty t112 1)] rfl (by (try simp only [List.map_toArray,List.map_cons,List.map_nil]);first | done | rfl | (simp only [List.length_drop,List.length_take];rfl)) ?_;(with_reducible refine (spec_l01Number.calls k1 (rdOf ByteArray.empty t112 1) t122 true _ A13.out).mono ?_);rintro e w' ⟨rfl,⟨nd,rfl⟩⟩;refine ⟨_,rfl,?_⟩;have p124 : 0 ≤ (2 : Int) := (by omega);have q124 : 2 < (t112.length : Int) := of_decide_eq_true (by first | (with_reducible assumption) | assumption);obtain ⟨ad124,e124,hx124_0⟩ := Kd.at_string (Kd.R_reads' HO114.out).2.2 2 p124 q124;obtain rfl : ad118 = ad124 := (by injection e124);(try simp only [show (2 : Int).toNat = 2 from rfl,Nat.reduceMul,Nat.reduceEqDiff,Go.Addr.add,↓reduceIte] at hx124_0);have qi124 : (2 < t112.length) = True := eq_true (by omega);(try rw [show ((2 : Int)).toNat = 2 from rfl] at hx124_0);replace p124 := eq_true p124;replace q124 := eq_true q124) | ((with_reducible refine gate_callee (f := 10) rfl ?_);refine goesL_ (some 50) rfl rfl Tryd.func10 (by kernel_rfl) rfl #[.string (rdOf ByteArray.empty t112 2)] rfl (by (try simp only [List.map_toArray,List.map_cons,List.map_nil]);first | done | rfl | (simp only [List.length_drop,List.length_take];rfl)) ?_;(with_reducible refine (spec_l01Number.calls k1 (rdOf ByteArray.empty t112 2) t125 true _ A15.out).mono ?_);rintro e w' ⟨rfl,⟨nd,rfl⟩⟩;refine ⟨_,rfl,?_⟩) | ((with_reducible refine gate_dst (N := 75) rfl ?_);refine Kd.R_lit k34 _ 34 ?hg (N := 75) ?hd (xs := ([] : List (S34))) (inner := []) (ok := fun _ => True) (okp := fun _ => True) ?hr ?hp (fun _ hk => hk) trivial (Below.refl _ _) (Nat.le_refl _) (by simp) ?_;(case hd => rfl);(case hg => rfl);(case hr => first | (go_simp;done) | (go_simp;rfl));(case hp => exact (Reps.none _ _));intro v131 w29 ho30 hb hg_ hnew_;clear hg_ hnew_;(first | rw [← Ny130.out] at ho30 | (simp only [Int.reduceToNat] at ho30;rw [← Ny130.out] at ho30));have n0_ := Aside0.mk (Kd.R_below (by (with_reducible repeat (first | apply Kd.R_alloc | apply Kd.R_drewN | apply Kd.R_drew));exact HO_4.out) hb);have n1_ := Aside0.mk (Kd.R_elder' (by (with_reducible repeat (first | apply Kd.R_alloc | apply Kd.R_drewN | apply Kd.R_drew));exact HO_5.out) (Kd.R_base ho30) hb);have n2_ := Aside0.mk (Kd.R_below (by (with_reducible repeat (first | apply Kd.R_alloc | apply Kd.R_drewN | apply Kd.R_drew));exact HO114.out) hb);have n3_ := Aside0.mk (Kd.R_lower (Kd.R_new' ho30 (Kd.R_lt (by (with_reducible repeat (first | apply Kd.R_alloc | apply Kd.R_drewN | apply Kd.R_drew));exact HO_5.out))) (below_size (by repeat (first | (with_reducible first | exact HB.out | apply below_alloc | apply pw_below_drewN | apply below_drew1) | exact HB.out))));have n4_ := Aside0.mk (below_step (by repeat (first | (with_reducible first | exact HB.out | apply below_alloc | apply pw_below_drewN | apply below_drew1) | exact HB.out)) hb);clear HO_4;clear HO_5;clear HO114;clear HB;have HO_4 := n0_;have HO_5 := n1_;have HO114 := n2_;have HO132 := n3_;have HB := n4_;clear n0_ n1_ n2_ n3_ n4_;clear hb ho30))
              go_ret2
              exact ⟨_,by first | rfl | (simp [errW_none,errW_some,IntKind.wrap_i64,wrap64];done) | (simp [errW_none,errW_some] <;> rfl) | (simp [*,errW_none,errW_some] <;> rfl),by (with_reducible repeat (first | apply Kd.R_alloc | apply Kd.R_drewN | apply Kd.R_drew));exact Kd.R_mono HO132.out (fun _ hk => trivial),by repeat (first | (with_reducible first | exact HB.out | apply below_alloc | apply pw_below_drewN | apply below_drew1) | exact HB.out)⟩
             ·rw [if_neg c25] at H;have c25b0 : decide (60 < t122) = false := decide_eq_false c25;clear c25
              by_cases c31 : t125 > 60
              ·rw [if_pos c31] at H;have c31b0 : decide (60 < t125) = true := decide_eq_true c31;clear c31;obtain ⟨y133,hy133⟩ : ∃ y_ : List (S34),y_ = (([] : List (S34))) := ⟨_,rfl⟩
               replace H : (some (y133,5)) = some (r1,r2) := by first | (rw [hy133];with_reducible exact H) | (have H2_ := (Option.bind_some _ _).symm.trans H;rw [hy133];with_reducible exact H2_) | (have H2_ := (Option.bind_some _ _).symm.trans H;with_reducible exact H2_) | with_reducible exact H | (rw [hy133];exact H) | exact H
               have Ny133 := Aside0.mk hy133;clear hy133;simp only [Option.some.injEq,Prod.mk.injEq] at H;obtain ⟨rfl,rfl⟩ := H;obtain ⟨Ao32,co32,eo32⟩ := Kd.R_slice HO_4.out;subst eo32;have p111 : 0 ≤ (x6_1 : Int) := of_decide_eq_true (by first | (with_reducible assumption) | assumption);have q111 : x6_1 < (t101.length : Int) := of_decide_eq_true (by first | (with_reducible assumption) | assumption);obtain ⟨ad111,e111,hx111_0⟩ := Kd.at_string (Kd.R_reads' HO_4.out).2.2 x6_1 p111 q111;cases e111;replace p111 := eq_true p111;replace q111 := eq_true q111
               go_wp2_with (first | ((with_reducible refine gate_callee (f := 9) rfl ?_);refine goesL_ (some 27) rfl rfl Tryd.func9 (by kernel_rfl) rfl #[.string (rdOf ByteArray.empty t101 x6_1),.int .u8 47] rfl (by (try simp only [List.map_toArray,List.map_cons,List.map_nil]);first | done | rfl | (simp only [List.length_drop,List.length_take];rfl)) ?_;(with_reducible refine (spec_l01Split.calls k1 (rdOf ByteArray.empty t101 x6_1) 47 t112 _ A8.out).mono ?_);rintro e w33 ⟨v113,rfl,ho0,hb⟩;refine ⟨_,rfl,?_⟩;have n0_ := Aside0.mk (Kd.R_elder' (by (with_reducible repeat (first | apply Kd.R_alloc | apply Kd.R_drewN | apply Kd.R_drew));exact HO_4.out) (Kd.R_base ho0) hb);have n1_ := Aside0.mk (Kd.R_below (by (with_reducible repeat (first | apply Kd.R_alloc | apply Kd.R_drewN | apply Kd.R_drew));exact HO_5.out) hb);have n2_ := Aside0.mk (Kd.R_lower (Kd.R_new' ho0 (Kd.R_lt (by (with_reducible repeat (first | apply Kd.R_alloc | apply Kd.R_drewN | apply Kd.R_drew));exact HO_4.out))) (below_size (by repeat (first | (with_reducible first | exact HB.out | apply below_alloc | apply pw_below_drewN | apply below_drew1) | exact HB.out))));have n3_ := Aside0.mk (below_step (by repeat (first | (with_reducible first | exact HB.out | apply below_alloc | apply pw_below_drewN | apply below_drew1) | exact HB.out)) hb);clear HO_4;clear HO_5;clear HB;have HO_4 := n0_;have HO_5 := n1_;have HO114 := n2_;have HB := n3_;clear n0_ n1_ n2_ n3_;(try clear hb);(try clear hb2);(try clear hk);(try clear hi);(try clear ho0);obtain ⟨Ao34,co34,eo34⟩ := Kd.R_slice HO114.out;subst eo34;have p118 : 0 ≤ (0 : Int) := (by omega);have q118 : 0 < (t112.length : Int) := of_decide_eq_true (by first | (with_reducible assumption) | assumption);obtain ⟨ad118,e118,hx118_0⟩ := Kd.at_string (Kd.R_reads' HO114.out).2.2 0 p118 q118;cases e118;have qi118 : (0 < t112.length) = True := eq_true (by omega);(try rw [show ((0 : Int)).toNat = 0 from rfl] at hx118_0);(try rw [Addr.add_zero'] at hx118_0);replace p118 := eq_true p118;replace q118 := eq_true q118) | ((with_reducible refine gate_callee (f := 10) rfl ?_);refine goesL_ (some 36) rfl rfl Tryd.func10 (by kernel_rfl) rfl #[.string (rdOf ByteArray.empty t112 0)] rfl (by (try simp only [List.map_toArray,List.map_cons,List.map_nil]);first | done | rfl | (simp only [List.length_drop,List.length_take];rfl)) ?_;(with_reducible refine (spec_l01Number.calls k1 (rdOf ByteArray.empty t112 0) t119 true _ A11.out).mono ?_);rintro e w' ⟨rfl,⟨nd,rfl⟩⟩;refine ⟨_,rfl,?_⟩;have p121 : 0 ≤ (1 : Int) := (by omega);have q121 : 1 < (t112.length : Int) := of_decide_eq_true (by first | (with_reducible assumption) | assumption);obtain ⟨ad121,e121,hx121_0⟩ := Kd.at_string (Kd.R_reads' HO114.out).2.2 1 p121 q121;obtain rfl : ad118 = ad121 := (by injection e121);(try simp only [show (1 : Int).toNat = 1 from rfl,Nat.reduceMul,Nat.reduceEqDiff,Go.Addr.add,↓reduceIte] at hx121_0);have qi121 : (1 < t112.length) = True := eq_true (by omega);(try rw [show ((1 : Int)).toNat = 1 from rfl] at hx121_0);replace p121 := eq_true p121;replace q121 := eq_true q121) | ((with_reducible refine gate_callee (f := 10) rfl ?_);refine goesL_ (some 43) rfl rfl Tryd.func10 (by kernel_rfl) rfl #[.string (rdOf ByteArray.empty t112 1)] rfl (by (try simp only [List.map_toArray,List.map_cons,List.map_nil]);first | done | rfl | (simp only [List.length_drop,List.length_take];rfl)) ?_;(with_reducible refine (spec_l01Number.calls k1 (rdOf ByteArray.empty t112 1) t122 true _ A13.out).mono ?_);rintro e w' ⟨rfl,⟨nd,rfl⟩⟩;refine ⟨_,rfl,?_⟩;have p124 : 0 ≤ (2 : Int) := (by omega);have q124 : 2 < (t112.length : Int) := of_decide_eq_true (by first | (with_reducible assumption) | assumption);obtain ⟨ad124,e124,hx124_0⟩ := Kd.at_string (Kd.R_reads' HO114.out).2.2 2 p124 q124;obtain rfl : ad118 = ad124 := (by injection e124);(try simp only [show (2 : Int).toNat = 2 from rfl,Nat.reduceMul,Nat.reduceEqDiff,Go.Addr.add,↓reduceIte] at hx124_0);have qi124 : (2 < t112.length) = True := eq_true (by omega);(try rw [show ((2 : Int)).toNat = 2 from rfl] at hx124_0);replace p124 := eq_true p124;replace q124 := eq_true q124) | ((with_reducible refine gate_callee (f := 10) rfl ?_);refine goesL_ (some 50) rfl rfl Tryd.func10 (by kernel_rfl) rfl #[.string (rdOf ByteArray.empty t112 2)] rfl (by (try simp only [List.map_toArray,List.map_cons,List.map_nil]);first | done | rfl | (simp only [List.length_drop,List.length_take];rfl)) ?_;(with_reducible refine (spec_l01Number.calls k1 (rdOf ByteArray.empty t112 2) t125 true _ A15.out).mono ?_);rintro e w' ⟨rfl,⟨nd,rfl⟩⟩;refine ⟨_,rfl,?_⟩) | ((with_reducible refine gate_dst (N := 75) rfl ?_);refine Kd.R_lit k34 _ 34 ?hg (N := 75) ?hd (xs := ([] : List (S34))) (inner := []) (ok := fun _ => True) (okp := fun _ => True) ?hr ?hp (fun _ hk => hk) trivial (Below.refl _ _) (Nat.le_refl _) (by simp) ?_;(case hd => rfl);(case hg => rfl);(case hr => first | (go_simp;done) | (go_simp;rfl));(case hp => exact (Reps.none _ _));intro v134 w35 ho36 hb hg_ hnew_;clear hg_ hnew_;(first | rw [← Ny133.out] at ho36 | (simp only [Int.reduceToNat] at ho36;rw [← Ny133.out] at ho36));have n0_ := Aside0.mk (Kd.R_below (by (with_reducible repeat (first | apply Kd.R_alloc | apply Kd.R_drewN | apply Kd.R_drew));exact HO_4.out) hb);have n1_ := Aside0.mk (Kd.R_elder' (by (with_reducible repeat (first | apply Kd.R_alloc | apply Kd.R_drewN | apply Kd.R_drew));exact HO_5.out) (Kd.R_base ho36) hb);have n2_ := Aside0.mk (Kd.R_below (by (with_reducible repeat (first | apply Kd.R_alloc | apply Kd.R_drewN | apply Kd.R_drew));exact HO114.out) hb);have n3_ := Aside0.mk (Kd.R_lower (Kd.R_new' ho36 (Kd.R_lt (by (with_reducible repeat (first | apply Kd.R_alloc | apply Kd.R_drewN | apply Kd.R_drew));exact HO_5.out))) (below_size (by repeat (first | (with_reducible first | exact HB.out | apply below_alloc | apply pw_below_drewN | apply below_drew1) | exact HB.out))));have n4_ := Aside0.mk (below_step (by repeat (first | (with_reducible first | exact HB.out | apply below_alloc | apply pw_below_drewN | apply below_drew1) | exact HB.out)) hb);clear HO_4;clear HO_5;clear HO114;clear HB;have HO_4 := n0_;have HO_5 := n1_;have HO114 := n2_;have HO135 := n3_;have HB := n4_;clear n0_ n1_ n2_ n3_ n4_;clear hb ho36))
               go_ret2
               exact ⟨_,by first | rfl | (simp [errW_none,errW_some,IntKind.wrap_i64,wrap64];done) | (simp [errW_none,errW_some] <;> rfl) | (simp [*,errW_none,errW_some] <;> rfl),by (with_reducible repeat (first | apply Kd.R_alloc | apply Kd.R_drewN | apply Kd.R_drew));exact Kd.R_mono HO135.out (fun _ hk => trivial),by repeat (first | (with_reducible first | exact HB.out | apply below_alloc | apply pw_below_drewN | apply below_drew1) | exact HB.out)⟩
              ·rw [if_neg c31] at H;have c31b0 : decide (60 < t125) = false := decide_eq_false c31;clear c31
               by_cases c37 : x5_1.length < 46912496118442
               ·rw [if_pos c37] at H;have LMc37 := Aside0.mk c37;clear c37;obtain ⟨y136,hy136⟩ : ∃ y_ : List (S34),y_ = (x5_1 ++ [(⟨IntKind.i8.wrap (t119),IntKind.i8.wrap (t122),IntKind.i8.wrap (t125)⟩ : S34)]) := ⟨_,rfl⟩
                replace H : (spec_ReadLine.l0 k1 t101 y136 (wrap64 (x6_1 + 1))) = some (r1,r2) := by first | (rw [hy136];with_reducible exact H) | (have H2_ := (Option.bind_some _ _).symm.trans H;rw [hy136];with_reducible exact H2_) | (have H2_ := (Option.bind_some _ _).symm.trans H;with_reducible exact H2_) | with_reducible exact H | (rw [hy136];exact H) | exact H
                have Ny136 := Aside0.mk hy136;clear hy136;have H' := Aside0.mk H;clear H;obtain ⟨Ao38,co38,eo38⟩ := Kd.R_slice HO_4.out;subst eo38;have p111 : 0 ≤ (x6_1 : Int) := of_decide_eq_true (by first | (with_reducible assumption) | assumption);have q111 : x6_1 < (t101.length : Int) := of_decide_eq_true (by first | (with_reducible assumption) | assumption);obtain ⟨ad111,e111,hx111_0⟩ := Kd.at_string (Kd.R_reads' HO_4.out).2.2 x6_1 p111 q111;cases e111;replace p111 := eq_true p111;replace q111 := eq_true q111
                go_wp2_with (first | ((with_reducible refine gate_callee (f := 9) rfl ?_);refine goesL_ (some 27) rfl rfl Tryd.func9 (by kernel_rfl) rfl #[.string (rdOf ByteArray.empty t101 x6_1),.int .u8 47] rfl (by (try simp only [List.map_toArray,List.map_cons,List.map_nil]);first | done | rfl | (simp only [List.length_drop,List.length_take];rfl)) ?_;(with_reducible refine (spec_l01Split.calls k1 (rdOf ByteArray.empty t101 x6_1) 47 t112 _ A8.out).mono ?_);rintro e w39 ⟨v113,rfl,ho0,hb⟩;refine ⟨_,rfl,?_⟩;have n0_ := Aside0.mk (Kd.R_elder' (by (with_reducible repeat (first | apply Kd.R_alloc | apply Kd.R_drewN | apply Kd.R_drew));exact HO_4.out) (Kd.R_base ho0) hb);have n1_ := Aside0.mk (Kd.R_below (by (with_reducible repeat (first | apply Kd.R_alloc | apply Kd.R_drewN | apply Kd.R_drew));exact HO_5.out) hb);have n2_ := Aside0.mk (Kd.R_lower (Kd.R_new' ho0 (Kd.R_lt (by (with_reducible repeat (first | apply Kd.R_alloc | apply Kd.R_drewN | apply Kd.R_drew));exact HO_4.out))) (below_size (by repeat (first | (with_reducible first | exact HB.out | apply below_alloc | apply pw_below_drewN | apply below_drew1) | exact HB.out))));have n3_ := Aside0.mk (below_step (by repeat (first | (with_reducible first | exact HB.out | apply below_alloc | apply pw_below_drewN | apply below_drew1) | exact HB.out)) hb);clear HO_4;clear HO_5;clear HB;have HO_4 := n0_;have HO_5 := n1_;have HO114 := n2_;have HB := n3_;clear n0_ n1_ n2_ n3_;(try clear hb);(try clear hb2);(try clear hk);(try clear hi);(try clear ho0);obtain ⟨Ao40,co40,eo40⟩ := Kd.R_slice HO114.out;subst eo40;have p118 : 0 ≤ (0 : Int) := (by omega);have q118 : 0 < (t112.length : Int) := of_decide_eq_true (by first | (with_reducible assumption) | assumption);obtain ⟨ad118,e118,hx118_0⟩ := Kd.at_string (Kd.R_reads' HO114.out).2.2 0 p118 q118;cases e118;have qi118 : (0 < t112.length) = True := eq_true (by omega);(try rw [show ((0 : Int)).toNat = 0 from rfl] at hx118_0);(try rw [Addr.add_zero'] at hx118_0);replace p118 := eq_true p118;replace q118 := eq_true q118) | ((with_reducible refine gate_callee (f := 10) rfl ?_);refine goesL_ (some 36) rfl rfl Tryd.func10 (by kernel_rfl) rfl #[.string (rdOf ByteArray.empty t112 0)] rfl (by (try simp only [List.map_toArray,List.map_cons,List.map_nil]);first | done | rfl | (simp only [List.length_drop,List.length_take];rfl)) ?_;(with_reducible refine (spec_l01Number.calls k1 (rdOf ByteArray.empty t112 0) t119 true _ A11.out).mono ?_);rintro e w' ⟨rfl,⟨nd,rfl⟩⟩;refine ⟨_,rfl,?_⟩;have p121 : 0 ≤ (1 : Int) := (by omega);have q121 : 1 < (t112.length : Int) := of_decide_eq_true (by first | (with_reducible assumption) | assumption);obtain ⟨ad121,e121,hx121_0⟩ := Kd.at_string (Kd.R_reads' HO114.out).2.2 1 p121 q121;obtain rfl : ad118 = ad121 := (by injection e121);(try simp only [show (1 : Int).toNat = 1 from rfl,Nat.reduceMul,Nat.reduceEqDiff,Go.Addr.add,↓reduceIte] at hx121_0);have qi121 : (1 < t112.length) = True := eq_true (by omega);(try rw [show ((1 : Int)).toNat = 1 from rfl] at hx121_0);replace p121 := eq_true p121;replace q121 := eq_true q121) | ((with_reducible refine gate_callee (f := 10) rfl ?_);refine goesL_ (some 43) rfl rfl Tryd.func10 (by kernel_rfl) rfl #[.string (rdOf ByteArray.empty t112 1)] rfl (by (try simp only [List.map_toArray,List.map_cons,List.map_nil]);first | done | rfl | (simp only [List.length_drop,List.length_take];rfl)) ?_;(with_reducible refine (spec_l01Number.calls k1 (rdOf ByteArray.empty t112 1) t122 true _ A13.out).mono ?_);rintro e w' ⟨rfl,⟨nd,rfl⟩⟩;refine ⟨_,rfl,?_⟩;have p124 : 0 ≤ (2 : Int) := (by omega);have q124 : 2 < (t112.length : Int) := of_decide_eq_true (by first | (with_reducible assumption) | assumption);obtain ⟨ad124,e124,hx124_0⟩ := Kd.at_string (Kd.R_reads' HO114.out).2.2 2 p124 q124;obtain rfl : ad118 = ad124 := (by injection e124);(try simp only [show (2 : Int).toNat = 2 from rfl,Nat.reduceMul,Nat.reduceEqDiff,Go.Addr.add,↓reduceIte] at hx124_0);have qi124 : (2 < t112.length) = True := eq_true (by omega);(try rw [show ((2 : Int)).toNat = 2 from rfl] at hx124_0);replace p124 := eq_true p124;replace q124 := eq_true q124) | ((with_reducible refine gate_callee (f := 10) rfl ?_);refine goesL_ (some 50) rfl rfl Tryd.func10 (by kernel_rfl) rfl #[.string (rdOf ByteArray.empty t112 2)] rfl (by (try simp only [List.map_toArray,List.map_cons,List.map_nil]);first | done | rfl | (simp only [List.length_drop,List.length_take];rfl)) ?_;(with_reducible refine (spec_l01Number.calls k1 (rdOf ByteArray.empty t112 2) t125 true _ A15.out).mono ?_);rintro e w' ⟨rfl,⟨nd,rfl⟩⟩;refine ⟨_,rfl,?_⟩) | ((with_reducible refine gate_builtin (b := .append) (xs := #[.tmp 76,.tmp 84]) rfl ?_);at_builtin;refine Kd.R_append k34 (w0 := w) w.heap.size rfl (.tmp 76) (.tmp 84) 22 34 (.agg #[(.int .i8 0),(.int .i8 0),(.int .i8 0)]) 3 rfl Tryd.underlying22 info34 rfl (by decide) (by omega) u5 x5_1 (⟨IntKind.i8.wrap (t119),IntKind.i8.wrap (t122),IntKind.i8.wrap (t125)⟩ : S34) [.int .i8 (IntKind.i8.wrap (t119)),.int .i8 (IntKind.i8.wrap (t122)),.int .i8 (IntKind.i8.wrap (t125))] (fun _ => True) (fun _ => False) rfl rfl ?aP (fun _ hk => hk.elim) ?aF ?aO ?aB ?aS ?aL ?_;(case aP => exact k34_mkM _ _ _ (⟨IntKind.i8.wrap (t119),IntKind.i8.wrap (t122),IntKind.i8.wrap (t125)⟩ : S34));(case aB => exact (by repeat (first | (with_reducible first | exact HB.out | apply below_alloc | apply pw_below_drewN | apply below_drew1) | exact HB.out)));(case aF => exact (fun _ _ => trivial));(case aO => exact (by (with_reducible repeat (first | apply Kd.R_alloc | apply Kd.R_drewN | apply Kd.R_drew));exact HO_5.out));(case aS => exact (below_size (by repeat (first | (with_reducible first | exact HB.out | apply below_alloc | apply pw_below_drewN | apply below_drew1) | exact HB.out))));(case aL => have := LMc37.out;omega);intro v137 w41 ho hb hg hat;rw [← Ny136.out] at ho;have n0_ := Aside0.mk (Kd.R_over' (by (with_reducible repeat (first | apply Kd.R_alloc | apply Kd.R_drewN | apply Kd.R_drew));exact HO_4.out) (Kd.R_typed (by (with_reducible repeat (first | apply Kd.R_alloc | apply Kd.R_drewN | apply Kd.R_drew));exact HO_5.out)) (by decide) hg);have n1_ := Aside0.mk (Kd.R_over' (by (with_reducible repeat (first | apply Kd.R_alloc | apply Kd.R_drewN | apply Kd.R_drew));exact HO114.out) (Kd.R_typed (by (with_reducible repeat (first | apply Kd.R_alloc | apply Kd.R_drewN | apply Kd.R_drew));exact HO_5.out)) (by decide) hg);have n2_ := Aside0.mk (hb);have n3_ := Aside0.mk (ho);clear HO_4;clear HO114;clear HB;clear HO_5;have HO_4 := n0_;have HO114 := n1_;have HB := n2_;have HO138 := n3_;clear n0_ n1_ n2_ n3_;clear ho hb hg hat))
                go_roundg k1
                case measure => have := HK1.out;omega
                case rel => exact ⟨(y136),(wrap64 (x6_1 + 1)),(by first | rfl | (simp only [IntKind.wrap_i64,wrap64];done) | (simp;done) | (simp [*];done)),H',⟨by have := HK1.out;omega⟩,⟨by (with_reducible repeat (first | apply Kd.R_alloc | apply Kd.R_drewN | apply Kd.R_drew));exact Kd.R_mono HO_4.out (fun _ hk => trivial)⟩,⟨by (with_reducible repeat (first | apply Kd.R_alloc | apply Kd.R_drewN | apply Kd.R_drew));exact HO138.out⟩,⟨by repeat (first | (with_reducible first | exact HB.out | apply below_alloc | apply pw_below_drewN | apply below_drew1) | exact HB.out)⟩⟩
               ·rw [if_neg c37] at H;exact absurd H (by simp)
           ·replace c18 := Bool.eq_false_iff.mpr c18;subst c18
            have H1 : (some ((([] : List (S34))),5)) = some (r1,r2) := by rw [if_neg (show ¬ (false = true) by decide)] at H;exact H
            clear H;have H := H1;clear H1;obtain ⟨y139,hy139⟩ : ∃ y_ : List (S34),y_ = (([] : List (S34))) := ⟨_,rfl⟩
            replace H : (some (y139,5)) = some (r1,r2) := by first | (rw [hy139];with_reducible exact H) | (have H2_ := (Option.bind_some _ _).symm.trans H;rw [hy139];with_reducible exact H2_) | (have H2_ := (Option.bind_some _ _).symm.trans H;with_reducible exact H2_) | with_reducible exact H | (rw [hy139];exact H) | exact H
            have Ny139 := Aside0.mk hy139;clear hy139;simp only [Option.some.injEq,Prod.mk.injEq] at H;obtain ⟨rfl,rfl⟩ := H;obtain ⟨Ao42,co42,eo42⟩ := Kd.R_slice HO_4.out;subst eo42;have p111 : 0 ≤ (x6_1 : Int) := of_decide_eq_true (by first | (with_reducible assumption) | assumption);have q111 : x6_1 < (t101.length : Int) := of_decide_eq_true (by first | (with_reducible assumption) | assumption);obtain ⟨ad111,e111,hx111_0⟩ := Kd.at_string (Kd.R_reads' HO_4.out).2.2 x6_1 p111 q111;cases e111;replace p111 := eq_true p111;replace q111 := eq_true q111
            go_wp2_with (first | ((with_reducible refine gate_callee (f := 9) rfl ?_);refine goesL_ (some 27) rfl rfl Tryd.func9 (by kernel_rfl) rfl #[.string (rdOf ByteArray.empty t101 x6_1),.int .u8 47] rfl (by (try simp only [List.map_toArray,List.map_cons,List.map_nil]);first | done | rfl | (simp only [List.length_drop,List.length_take];rfl)) ?_;(with_reducible refine (spec_l01Split.calls k1 (rdOf ByteArray.empty t101 x6_1) 47 t112 _ A8.out).mono ?_);rintro e w43 ⟨v113,rfl,ho0,hb⟩;refine ⟨_,rfl,?_⟩;have n0_ := Aside0.mk (Kd.R_elder' (by (with_reducible repeat (first | apply Kd.R_alloc | apply Kd.R_drewN | apply Kd.R_drew));exact HO_4.out) (Kd.R_base ho0) hb);have n1_ := Aside0.mk (Kd.R_below (by (with_reducible repeat (first | apply Kd.R_alloc | apply Kd.R_drewN | apply Kd.R_drew));exact HO_5.out) hb);have n2_ := Aside0.mk (Kd.R_lower (Kd.R_new' ho0 (Kd.R_lt (by (with_reducible repeat (first | apply Kd.R_alloc | apply Kd.R_drewN | apply Kd.R_drew));exact HO_4.out))) (below_size (by repeat (first | (with_reducible first | exact HB.out | apply below_alloc | apply pw_below_drewN | apply below_drew1) | exact HB.out))));have n3_ := Aside0.mk (below_step (by repeat (first | (with_reducible first | exact HB.out | apply below_alloc | apply pw_below_drewN | apply below_drew1) | exact HB.out)) hb);clear HO_4;clear HO_5;clear HB;have HO_4 := n0_;have HO_5 := n1_;have HO114 := n2_;have HB := n3_;clear n0_ n1_ n2_ n3_;(try clear hb);(try clear hb2);(try clear hk);(try clear hi);(try clear ho0);obtain ⟨Ao44,co44,eo44⟩ := Kd.R_slice HO114.out;subst eo44;have p118 : 0 ≤ (0 : Int) := (by omega);have q118 : 0 < (t112.length : Int) := of_decide_eq_true (by first | (with_reducible assumption) | assumption);obtain ⟨ad118,e118,hx118_0⟩ := Kd.at_string (Kd.R_reads' HO114.out).2.2 0 p118 q118;cases e118;have qi118 : (0 < t112.length) = True := eq_true (by omega);(try rw [show ((0 : Int)).toNat = 0 from rfl] at hx118_0);(try rw [Addr.add_zero'] at hx118_0);replace p118 := eq_true p118;replace q118 := eq_true q118) | ((with_reducible refine gate_callee (f := 10) rfl ?_);refine goesL_ (some 36) rfl rfl Tryd.func10 (by kernel_rfl) rfl #[.string (rdOf ByteArray.empty t112 0)] rfl (by (try simp only [List.map_toArray,List.map_cons,List.map_nil]);first | done | rfl | (simp only [List.length_drop,List.length_take];rfl)) ?_;(with_reducible refine (spec_l01Number.calls k1 (rdOf ByteArray.empty t112 0) t119 true _ A11.out).mono ?_);rintro e w' ⟨rfl,⟨nd,rfl⟩⟩;refine ⟨_,rfl,?_⟩;have p121 : 0 ≤ (1 : Int) := (by omega);have q121 : 1 < (t112.length : Int) := of_decide_eq_true (by first | (with_reducible assumption) | assumption);obtain ⟨ad121,e121,hx121_0⟩ := Kd.at_string (Kd.R_reads' HO114.out).2.2 1 p121 q121;obtain rfl : ad118 = ad121 := (by injection e121);(try simp only [show (1 : Int).toNat = 1 from rfl,Nat.reduceMul,Nat.reduceEqDiff,Go.Addr.add,↓reduceIte] at hx121_0);have qi121 : (1 < t112.length) = True := eq_true (by omega);(try rw [show ((1 : Int)).toNat = 1 from rfl] at hx121_0);replace p121 := eq_true p121;replace q121 := eq_true q121) | ((with_reducible refine gate_callee (f := 10) rfl ?_);refine goesL_ (some 43) rfl rfl Tryd.func10 (by kernel_rfl) rfl #[.string (rdOf ByteArray.empty t112 1)] rfl (by (try simp only [List.map_toArray,List.map_cons,List.map_nil]);first | done | rfl | (simp only [List.length_drop,List.length_take];rfl)) ?_;(with_reducible refine (spec_l01Number.calls k1 (rdOf ByteArray.empty t112 1) t122 true _ A13.out).mono ?_);rintro e w' ⟨rfl,⟨nd,rfl⟩⟩;refine ⟨_,rfl,?_⟩;have p124 : 0 ≤ (2 : Int) := (by omega);have q124 : 2 < (t112.length : Int) := of_decide_eq_true (by first | (with_reducible assumption) | assumption);obtain ⟨ad124,e124,hx124_0⟩ := Kd.at_string (Kd.R_reads' HO114.out).2.2 2 p124 q124;obtain rfl : ad118 = ad124 := (by injection e124);(try simp only [show (2 : Int).toNat = 2 from rfl,Nat.reduceMul,Nat.reduceEqDiff,Go.Addr.add,↓reduceIte] at hx124_0);have qi124 : (2 < t112.length) = True := eq_true (by omega);(try rw [show ((2 : Int)).toNat = 2 from rfl] at hx124_0);replace p124 := eq_true p124;replace q124 := eq_true q124) | ((with_reducible refine gate_callee (f := 10) rfl ?_);refine goesL_ (some 50) rfl rfl Tryd.func10 (by kernel_rfl) rfl #[.string (rdOf ByteArray.empty t112 2)] rfl (by (try simp only [List.map_toArray,List.map_cons,List.map_nil]);first | done | rfl | (simp only [List.length_drop,List.length_take];rfl)) ?_;(with_reducible refine (spec_l01Number.calls k1 (rdOf ByteArray.empty t112 2) t125 false _ A15.out).mono ?_);rintro e w' ⟨rfl,⟨nd,rfl⟩⟩;refine ⟨_,rfl,?_⟩) | ((with_reducible refine gate_dst (N := 75) rfl ?_);refine Kd.R_lit k34 _ 34 ?hg (N := 75) ?hd (xs := ([] : List (S34))) (inner := []) (ok := fun _ => True) (okp := fun _ => True) ?hr ?hp (fun _ hk => hk) trivial (Below.refl _ _) (Nat.le_refl _) (by simp) ?_;(case hd => rfl);(case hg => rfl);(case hr => first | (go_simp;done) | (go_simp;rfl));(case hp => exact (Reps.none _ _));intro v140 w45 ho46 hb hg_ hnew_;clear hg_ hnew_;(first | rw [← Ny139.out] at ho46 | (simp only [Int.reduceToNat] at ho46;rw [← Ny139.out] at ho46));have n0_ := Aside0.mk (Kd.R_below (by (with_reducible repeat (first | apply Kd.R_alloc | apply Kd.R_drewN | apply Kd.R_drew));exact HO_4.out) hb);have n1_ := Aside0.mk (Kd.R_elder' (by (with_reducible repeat (first | apply Kd.R_alloc | apply Kd.R_drewN | apply Kd.R_drew));exact HO_5.out) (Kd.R_base ho46) hb);have n2_ := Aside0.mk (Kd.R_below (by (with_reducible repeat (first | apply Kd.R_alloc | apply Kd.R_drewN | apply Kd.R_drew));exact HO114.out) hb);have n3_ := Aside0.mk (Kd.R_lower (Kd.R_new' ho46 (Kd.R_lt (by (with_reducible repeat (first | apply Kd.R_alloc | apply Kd.R_drewN | apply Kd.R_drew));exact HO_5.out))) (below_size (by repeat (first | (with_reducible first | exact HB.out | apply below_alloc | apply pw_below_drewN | apply below_drew1) | exact HB.out))));have n4_ := Aside0.mk (below_step (by repeat (first | (with_reducible first | exact HB.out | apply below_alloc | apply pw_below_drewN | apply below_drew1) | exact HB.out)) hb);clear HO_4;clear HO_5;clear HO114;clear HB;have HO_4 := n0_;have HO_5 := n1_;have HO114 := n2_;have HO141 := n3_;have HB := n4_;clear n0_ n1_ n2_ n3_ n4_;clear hb ho46))
            go_ret2
            exact ⟨_,by first | rfl | (simp [errW_none,errW_some,IntKind.wrap_i64,wrap64];done) | (simp [errW_none,errW_some] <;> rfl) | (simp [*,errW_none,errW_some] <;> rfl),by (with_reducible repeat (first | apply Kd.R_alloc | apply Kd.R_drewN | apply Kd.R_drew));exact Kd.R_mono HO141.out (fun _ hk => trivial),by repeat (first | (with_reducible first | exact HB.out | apply below_alloc | apply pw_below_drewN | apply below_drew1) | exact HB.out)⟩
          ·replace c17 := Bool.eq_false_iff.mpr c17;subst c17
           have H1 : (some ((([] : List (S34))),5)) = some (r1,r2) := by rw [if_neg (show ¬ (false = true) by decide)] at H;exact H
           clear H;have H := H1;clear H1;obtain ⟨y142,hy142⟩ : ∃ y_ : List (S34),y_ = (([] : List (S34))) := ⟨_,rfl⟩
           replace H : (some (y142,5)) = some (r1,r2) := by first | (rw [hy142];with_reducible exact H) | (have H2_ := (Option.bind_some _ _).symm.trans H;rw [hy142];with_reducible exact H2_) | (have H2_ := (Option.bind_some _ _).symm.trans H;with_reducible exact H2_) | with_reducible exact H | (rw [hy142];exact H) | exact H
           have Ny142 := Aside0.mk hy142;clear hy142;simp only [Option.some.injEq,Prod.mk.injEq] at H;obtain ⟨rfl,rfl⟩ := H;obtain ⟨Ao47,co47,eo47⟩ := Kd.R_slice HO_4.out;subst eo47;have p111 : 0 ≤ (x6_1 : Int) := of_decide_eq_true (by first | (with_reducible assumption) | assumption);have q111 : x6_1 < (t101.length : Int) := of_decide_eq_true (by first | (with_reducible assumption) | assumption);obtain ⟨ad111,e111,hx111_0⟩ := Kd.at_string (Kd.R_reads' HO_4.out).2.2 x6_1 p111 q111;cases e111;replace p111 := eq_true p111;replace q111 := eq_true q111
           go_wp2_with (first | ((with_reducible refine gate_callee (f := 9) rfl ?_);refine goesL_ (some 27) rfl rfl Tryd.func9 (by kernel_rfl) rfl #[.string (rdOf ByteArray.empty t101 x6_1),.int .u8 47] rfl (by (try simp only [List.map_toArray,List.map_cons,List.map_nil]);first | done | rfl | (simp only [List.length_drop,List.length_take];rfl)) ?_;(with_reducible refine (spec_l01Split.calls k1 (rdOf ByteArray.empty t101 x6_1) 47 t112 _ A8.out).mono ?_);rintro e w48 ⟨v113,rfl,ho0,hb⟩;refine ⟨_,rfl,?_⟩;have n0_ := Aside0.mk (Kd.R_elder' (by (with_reducible repeat (first | apply Kd.R_alloc | apply Kd.R_drewN | apply Kd.R_drew));exact HO_4.out) (Kd.R_base ho0) hb);have n1_ := Aside0.mk (Kd.R_below (by (with_reducible repeat (first | apply Kd.R_alloc | apply Kd.R_drewN | apply Kd.R_drew));exact HO_5.out) hb);have n2_ := Aside0.mk (Kd.R_lower (Kd.R_new' ho0 (Kd.R_lt (by (with_reducible repeat (first | apply Kd.R_alloc | apply Kd.R_drewN | apply Kd.R_drew));exact HO_4.out))) (below_size (by repeat (first | (with_reducible first | exact HB.out | apply below_alloc | apply pw_below_drewN | apply below_drew1) | exact HB.out))));have n3_ := Aside0.mk (below_step (by repeat (first | (with_reducible first | exact HB.out | apply below_alloc | apply pw_below_drewN | apply below_drew1) | exact HB.out)) hb);clear HO_4;clear HO_5;clear HB;have HO_4 := n0_;have HO_5 := n1_;have HO114 := n2_;have HB := n3_;clear n0_ n1_ n2_ n3_;(try clear hb);(try clear hb2);(try clear hk);(try clear hi);(try clear ho0);obtain ⟨Ao49,co49,eo49⟩ := Kd.R_slice HO114.out;subst eo49;have p118 : 0 ≤ (0 : Int) := (by omega);have q118 : 0 < (t112.length : Int) := of_decide_eq_true (by first | (with_reducible assumption) | assumption);obtain ⟨ad118,e118,hx118_0⟩ := Kd.at_string (Kd.R_reads' HO114.out).2.2 0 p118 q118;cases e118;have qi118 : (0 < t112.length) = True := eq_true (by omega);(try rw [show ((0 : Int)).toNat = 0 from rfl] at hx118_0);(try rw [Addr.add_zero'] at hx118_0);replace p118 := eq_true p118;replace q118 := eq_true q118) | ((with_reducible refine gate_callee (f := 10) rfl ?_);refine goesL_ (some 36) rfl rfl Tryd.func10 (by kernel_rfl) rfl #[.string (rdOf ByteArray.empty t112 0)] rfl (by (try simp only [List.map_toArray,List.map_cons,List.map_nil]);first | done | rfl | (simp only [List.length_drop,List.length_take];rfl)) ?_;(with_reducible refine (spec_l01Number.calls k1 (rdOf ByteArray.empty t112 0) t119 true _ A11.out).mono ?_);rintro e w' ⟨rfl,⟨nd,rfl⟩⟩;refine ⟨_,rfl,?_⟩;have p121 : 0 ≤ (1 : Int) := (by omega);have q121 : 1 < (t112.length : Int) := of_decide_eq_true (by first | (with_reducible assumption) | assumption);obtain ⟨ad121,e121,hx121_0⟩ := Kd.at_string (Kd.R_reads' HO114.out).2.2 1 p121 q121;obtain rfl : ad118 = ad121 := (by injection e121);(try simp only [show (1 : Int).toNat = 1 from rfl,Nat.reduceMul,Nat.reduceEqDiff,Go.Addr.add,↓reduceIte] at hx121_0);have qi121 : (1 < t112.length) = True := eq_true (by omega);(try rw [show ((1 : Int)).toNat = 1 from rfl] at hx121_0);replace p121 := eq_true p121;replace q121 := eq_true q121) | ((with_reducible refine gate_callee (f := 10) rfl ?_);refine goesL_ (some 43) rfl rfl Tryd.func10 (by kernel_rfl) rfl #[.string (rdOf ByteArray.empty t112 1)] rfl (by (try simp only [List.map_toArray,List.map_cons,List.map_nil]);first | done | rfl | (simp only [List.length_drop,List.length_take];rfl)) ?_;(with_reducible refine (spec_l01Number.calls k1 (rdOf ByteArray.empty t112 1) t122 false _ A13.out).mono ?_);rintro e w' ⟨rfl,⟨nd,rfl⟩⟩;refine ⟨_,rfl,?_⟩;have p124 : 0 ≤ (2 : Int) := (by omega);have q124 : 2 < (t112.length : Int) := of_decide_eq_true (by first | (with_reducible assumption) | assumption);obtain ⟨ad124,e124,hx124_0⟩ := Kd.at_string (Kd.R_reads' HO114.out).2.2 2 p124 q124;obtain rfl : ad118 = ad124 := (by injection e124);(try simp only [show (2 : Int).toNat = 2 from rfl,Nat.reduceMul,Nat.reduceEqDiff,Go.Addr.add,↓reduceIte] at hx124_0);have qi124 : (2 < t112.length) = True := eq_true (by omega);(try rw [show ((2 : Int)).toNat = 2 from rfl] at hx124_0);replace p124 := eq_true p124;replace q124 := eq_true q124) | ((with_reducible refine gate_callee (f := 10) rfl ?_);refine goesL_ (some 50) rfl rfl Tryd.func10 (by kernel_rfl) rfl #[.string (rdOf ByteArray.empty t112 2)] rfl (by (try simp only [List.map_toArray,List.map_cons,List.map_nil]);first | done | rfl | (simp only [List.length_drop,List.length_take];rfl)) ?_;(with_reducible refine (spec_l01Number.calls k1 (rdOf ByteArray.empty t112 2) t125 t126 _ A15.out).mono ?_);rintro e w' ⟨rfl,⟨nd,rfl⟩⟩;refine ⟨_,rfl,?_⟩) | ((with_reducible refine gate_dst (N := 75) rfl ?_);refine Kd.R_lit k34 _ 34 ?hg (N := 75) ?hd (xs := ([] : List (S34))) (inner := []) (ok := fun _ => True) (okp := fun _ => True) ?hr ?hp (fun _ hk => hk) trivial (Below.refl _ _) (Nat.le_refl _) (by simp) ?_;(case hd => rfl);(case hg => rfl);(case hr => first | (go_simp;done) | (go_simp;rfl));(case hp => exact (Reps.none _ _));intro v143 w50 ho51 hb hg_ hnew_;clear hg_ hnew_;(first | rw [← Ny142.out] at ho51 | (simp only [Int.reduceToNat] at ho51;rw [← Ny142.out] at ho51));have n0_ := Aside0.mk (Kd.R_below (by (with_reducible repeat (first | apply Kd.R_alloc | apply Kd.R_drewN | apply Kd.R_drew));exact HO_4.out) hb);have n1_ := Aside0.mk (Kd.R_elder' (by (with_reducible repeat (first | apply Kd.R_alloc | apply Kd.R_drewN | apply Kd.R_drew));exact HO_5.out) (Kd.R_base ho51) hb);have n2_ := Aside0.mk (Kd.R_below (by (with_reducible repeat (first | apply Kd.R_alloc | apply Kd.R_drewN | apply Kd.R_drew));exact HO114.out) hb);have n3_ := Aside0.mk (Kd.R_lower (Kd.R_new' ho51 (Kd.R_lt (by (with_reducible repeat (first | apply Kd.R_alloc | apply Kd.R_drewN | apply Kd.R_drew));exact HO_5.out))) (below_size (by repeat (first | (with_reducible first | exact HB.out | apply below_alloc | apply pw_below_drewN | apply below_drew1) | exact HB.out))));have n4_ := Aside0.mk (below_step (by repeat (first | (with_reducible first | exact HB.out | apply below_alloc | apply pw_below_drewN | apply below_drew1) | exact HB.out)) hb);clear HO_4;clear HO_5;clear HO114;clear HB;have HO_4 := n0_;have HO_5 := n1_;have HO114 := n2_;have HO144 := n3_;have HB := n4_;clear n0_ n1_ n2_ n3_ n4_;clear hb ho51))
           go_ret2
           exact ⟨_,by first | rfl | (simp [errW_none,errW_some,IntKind.wrap_i64,wrap64];done) | (simp [errW_none,errW_some] <;> rfl) | (simp [*,errW_none,errW_some] <;> rfl),by (with_reducible repeat (first | apply Kd.R_alloc | apply Kd.R_drewN | apply Kd.R_drew));exact Kd.R_mono HO144.out (fun _ hk => trivial),by repeat (first | (with_reducible first | exact HB.out | apply below_alloc | apply pw_below_drewN | apply below_drew1) | exact HB.out)⟩
         ·replace c16 := Bool.eq_false_iff.mpr c16;subst c16
          have H1 : (some ((([] : List (S34))),5)) = some (r1,r2) := by rw [if_neg (show ¬ (false = true) by decide)] at H;exact H
          clear H;have H := H1;clear H1;obtain ⟨y145,hy145⟩ : ∃ y_ : List (S34),y_ = (([] : List (S34))) := ⟨_,rfl⟩
          replace H : (some (y145,5)) = some (r1,r2) := by first | (rw [hy145];with_reducible exact H) | (have H2_ := (Option.bind_some _ _).symm.trans H;rw [hy145];with_reducible exact H2_) | (have H2_ := (Option.bind_some _ _).symm.trans H;with_reducible exact H2_) | with_reducible exact H | (rw [hy145];exact H) | exact H
          have Ny145 := Aside0.mk hy145;clear hy145;simp only [Option.some.injEq,Prod.mk.injEq] at H;obtain ⟨rfl,rfl⟩ := H;obtain ⟨Ao52,co52,eo52⟩ := Kd.R_slice HO_4.out;subst eo52;have p111 : 0 ≤ (x6_1 : Int) := of_decide_eq_true (by first | (with_reducible assumption) | assumption);have q111 : x6_1 < (t101.length : Int) := of_decide_eq_true (by first | (with_reducible assumption) | assumption);obtain ⟨ad111,e111,hx111_0⟩ := Kd.at_string (Kd.R_reads' HO_4.out).2.2 x6_1 p111 q111;cases e111;replace p111 := eq_true p111;replace q111 := eq_true q111
          go_wp2_with (first | ((with_reducible refine gate_callee (f := 9) rfl ?_);refine goesL_ (some 27) rfl rfl Tryd.func9 (by kernel_rfl) rfl #[.string (rdOf ByteArray.empty t101 x6_1),.int .u8 47] rfl (by (try simp only [List.map_toArray,List.map_cons,List.map_nil]);first | done | rfl | (simp only [List.length_drop,List.length_take];rfl)) ?_;(with_reducible refine (spec_l01Split.calls k1 (rdOf ByteArray.empty t101 x6_1) 47 t112 _ A8.out).mono ?_);rintro e w53 ⟨v113,rfl,ho0,hb⟩;refine ⟨_,rfl,?_⟩;have n0_ := Aside0.mk (Kd.R_elder' (by (with_reducible repeat (first | apply Kd.R_alloc | apply Kd.R_drewN | apply Kd.R_drew));exact HO_4.out) (Kd.R_base ho0) hb);have n1_ := Aside0.mk (Kd.R_below (by (with_reducible repeat (first | apply Kd.R_alloc | apply Kd.R_drewN | apply Kd.R_drew));exact HO_5.out) hb);have n2_ := Aside0.mk (Kd.R_lower (Kd.R_new' ho0 (Kd.R_lt (by (with_reducible repeat (first | apply Kd.R_alloc | apply Kd.R_drewN | apply Kd.R_drew));exact HO_4.out))) (below_size (by repeat (first | (with_reducible first | exact HB.out | apply below_alloc | apply pw_below_drewN | apply below_drew1) | exact HB.out))));have n3_ := Aside0.mk (below_step (by repeat (first | (with_reducible first | exact HB.out | apply below_alloc | apply pw_below_drewN | apply below_drew1) | exact HB.out)) hb);clear HO_4;clear HO_5;clear HB;have HO_4 := n0_;have HO_5 := n1_;have HO114 := n2_;have HB := n3_;clear n0_ n1_ n2_ n3_;(try clear hb);(try clear hb2);(try clear hk);(try clear hi);(try clear ho0);obtain ⟨Ao54,co54,eo54⟩ := Kd.R_slice HO114.out;subst eo54;have p118 : 0 ≤ (0 : Int) := (by omega);have q118 : 0 < (t112.length : Int) := of_decide_eq_true (by first | (with_reducible assumption) | assumption);obtain ⟨ad118,e118,hx118_0⟩ := Kd.at_string (Kd.R_reads' HO114.out).2.2 0 p118 q118;cases e118;have qi118 : (0 < t112.length) = True := eq_true (by omega);(try rw [show ((0 : Int)).toNat = 0 from rfl] at hx118_0);(try rw [Addr.add_zero'] at hx118_0);replace p118 := eq_true p118;replace q118 := eq_true q118) | ((with_reducible refine gate_callee (f := 10) rfl ?_);refine goesL_ (some 36) rfl rfl Tryd.func10 (by kernel_rfl) rfl #[.string (rdOf ByteArray.empty t112 0)] rfl (by (try simp only [List.map_toArray,List.map_cons,List.map_nil]);first | done | rfl | (simp only [List.length_drop,List.length_take];rfl)) ?_;(with_reducible refine (spec_l01Number.calls k1 (rdOf ByteArray.empty t112 0) t119 false _ A11.out).mono ?_);rintro e w' ⟨rfl,⟨nd,rfl⟩⟩;refine ⟨_,rfl,?_⟩;have p121 : 0 ≤ (1 : Int) := (by omega);have q121 : 1 < (t112.length : Int) := of_decide_eq_true (by first | (with_reducible assumption) | assumption);obtain ⟨ad121,e121,hx121_0⟩ := Kd.at_string (Kd.R_reads' HO114.out).2.2 1 p121 q121;obtain rfl : ad118 = ad121 := (by injection e121);(try simp only [show (1 : Int).toNat = 1 from rfl,Nat.reduceMul,Nat.reduceEqDiff,Go.Addr.add,↓reduceIte] at hx121_0);have qi121 : (1 < t112.length) = True := eq_true (by omega);(try rw [show ((1 : Int)).toNat = 1 from rfl] at hx121_0);replace p121 := eq_true p121;replace q121 := eq_true q121) | ((with_reducible refine gate_callee (f := 10) rfl ?_);refine goesL_ (some 43) rfl rfl Tryd.func10 (by kernel_rfl) rfl #[.string (rdOf ByteArray.empty t112 1)] rfl (by (try simp only [List.map_toArray,List.map_cons,List.map_nil]);first | done | rfl | (simp only [List.length_drop,List.length_take];rfl)) ?_;(with_reducible refine (spec_l01Number.calls k1 (rdOf ByteArray.empty t112 1) t122 t123 _ A13.out).mono ?_);rintro e w' ⟨rfl,⟨nd,rfl⟩⟩;refine ⟨_,rfl,?_⟩;have p124 : 0 ≤ (2 : Int) := (by omega);have q124 : 2 < (t112.length : Int) := of_decide_eq_true (by first | (with_reducible assumption) | assumption);obtain ⟨ad124,e124,hx124_0⟩ := Kd.at_string (Kd.R_reads' HO114.out).2.2 2 p124 q124;obtain rfl : ad118 = ad124 := (by injection e124);(try simp only [show (2 : Int).toNat = 2 from rfl,Nat.reduceMul,Nat.reduceEqDiff,Go.Addr.add,↓reduceIte] at hx124_0);have qi124 : (2 < t112.length) = True := eq_true (by omega);(try rw [show ((2 : Int)).toNat = 2 from rfl] at hx124_0);replace p124 := eq_true p124;replace q124 := eq_true q124) | ((with_reducible refine gate_callee (f := 10) rfl ?_);refine goesL_ (some 50) rfl rfl Tryd.func10 (by kernel_rfl) rfl #[.string (rdOf ByteArray.empty t112 2)] rfl (by (try simp only [List.map_toArray,List.map_cons,List.map_nil]);first | done | rfl | (simp only [List.length_drop,List.length_take];rfl)) ?_;(with_reducible refine (spec_l01Number.calls k1 (rdOf ByteArray.empty t112 2) t125 t126 _ A15.out).mono ?_);rintro e w' ⟨rfl,⟨nd,rfl⟩⟩;refine ⟨_,rfl,?_⟩) | ((with_reducible refine gate_dst (N := 75) rfl ?_);refine Kd.R_lit k34 _ 34 ?hg (N := 75) ?hd (xs := ([] : List (S34))) (inner := []) (ok := fun _ => True) (okp := fun _ => True) ?hr ?hp (fun _ hk => hk) trivial (Below.refl _ _) (Nat.le_refl _) (by simp) ?_;(case hd => rfl);(case hg => rfl);(case hr => first | (go_simp;done) | (go_simp;rfl));(case hp => exact (Reps.none _ _));intro v146 w55 ho56 hb hg_ hnew_;clear hg_ hnew_;(first | rw [← Ny145.out] at ho56 | (simp only [Int.reduceToNat] at ho56;rw [← Ny145.out] at ho56));have n0_ := Aside0.mk (Kd.R_below (by (with_reducible repeat (first | apply Kd.R_alloc | apply Kd.R_drewN | apply Kd.R_drew));exact HO_4.out) hb);have n1_ := Aside0.mk (Kd.R_elder' (by (with_reducible repeat (first | apply Kd.R_alloc | apply Kd.R_drewN | apply Kd.R_drew));exact HO_5.out) (Kd.R_base ho56) hb);have n2_ := Aside0.mk (Kd.R_below (by (with_reducible repeat (first | apply Kd.R_alloc | apply Kd.R_drewN | apply Kd.R_drew));exact HO114.out) hb);have n3_ := Aside0.mk (Kd.R_lower (Kd.R_new' ho56 (Kd.R_lt (by (with_reducible repeat (first | apply Kd.R_alloc | apply Kd.R_drewN | apply Kd.R_drew));exact HO_5.out))) (below_size (by repeat (first | (with_reducible first | exact HB.out | apply below_alloc | apply pw_below_drewN | apply below_drew1) | exact HB.out))));have n4_ := Aside0.mk (below_step (by repeat (first | (with_reducible first | exact HB.out | apply below_alloc | apply pw_below_drewN | apply below_drew1) | exact HB.out)) hb);clear HO_4;clear HO_5;clear HO114;clear HB;have HO_4 := n0_;have HO_5 := n1_;have HO114 := n2_;have HO147 := n3_;have HB := n4_;clear n0_ n1_ n2_ n3_ n4_;clear hb ho56))
          go_ret2
          exact ⟨_,by first | rfl | (simp [errW_none,errW_some,IntKind.wrap_i64,wrap64];done) | (simp [errW_none,errW_some] <;> rfl) | (simp [*,errW_none,errW_some] <;> rfl),by (with_reducible repeat (first | apply Kd.R_alloc | apply Kd.R_drewN | apply Kd.R_drew));exact Kd.R_mono HO147.out (fun _ hk => trivial),by repeat (first | (with_reducible first | exact HB.out | apply below_alloc | apply pw_below_drewN | apply below_drew1) | exact HB.out)⟩
        ·rw [if_neg c14] at H;exact absurd H (by simp)
       ·rw [if_neg c12] at H;exact absurd H (by simp)
      ·rw [if_neg c10] at H;exact absurd H (by simp)
     ·rw [if_neg c9] at H;have c9b0 : ((t112.length : Int) == 3) = false := beq_eq_false_iff_ne.mpr c9;have c9b1 : ((t112.length : Int) != 3) = true := bne_iff_ne.mpr c9;obtain ⟨y115,hy115⟩ : ∃ y_ : List (S34),y_ = (([] : List (S34))) := ⟨_,rfl⟩
      replace H : (some (y115,5)) = some (r1,r2) := by first | (rw [hy115];with_reducible exact H) | (have H2_ := (Option.bind_some _ _).symm.trans H;rw [hy115];with_reducible exact H2_) | (have H2_ := (Option.bind_some _ _).symm.trans H;with_reducible exact H2_) | with_reducible exact H | (rw [hy115];exact H) | exact H
      have Ny115 := Aside0.mk hy115;clear hy115;simp only [Option.some.injEq,Prod.mk.injEq] at H;obtain ⟨rfl,rfl⟩ := H;obtain ⟨Ao57,co57,eo57⟩ := Kd.R_slice HO_4.out;subst eo57;have p111 : 0 ≤ (x6_1 : Int) := of_decide_eq_true (by first | (with_reducible assumption) | assumption);have q111 : x6_1 < (t101.length : Int) := of_decide_eq_true (by first | (with_reducible assumption) | assumption);obtain ⟨ad111,e111,hx111_0⟩ := Kd.at_string (Kd.R_reads' HO_4.out).2.2 x6_1 p111 q111;cases e111;replace p111 := eq_true p111;replace q111 := eq_true q111
      go_wp2_with (first | ((with_reducible refine gate_callee (f := 9) rfl ?_);refine goesL_ (some 27) rfl rfl Tryd.func9 (by kernel_rfl) rfl #[.string (rdOf ByteArray.empty t101 x6_1),.int .u8 47] rfl (by (try simp only [List.map_toArray,List.map_cons,List.map_nil]);first | done | rfl | (simp only [List.length_drop,List.length_take];rfl)) ?_;(with_reducible refine (spec_l01Split.calls k1 (rdOf ByteArray.empty t101 x6_1) 47 t112 _ A8.out).mono ?_);rintro e w58 ⟨v113,rfl,ho0,hb⟩;refine ⟨_,rfl,?_⟩;have n0_ := Aside0.mk (Kd.R_elder' (by (with_reducible repeat (first | apply Kd.R_alloc | apply Kd.R_drewN | apply Kd.R_drew));exact HO_4.out) (Kd.R_base ho0) hb);have n1_ := Aside0.mk (Kd.R_below (by (with_reducible repeat (first | apply Kd.R_alloc | apply Kd.R_drewN | apply Kd.R_drew));exact HO_5.out) hb);have n2_ := Aside0.mk (Kd.R_lower (Kd.R_new' ho0 (Kd.R_lt (by (with_reducible repeat (first | apply Kd.R_alloc | apply Kd.R_drewN | apply Kd.R_drew));exact HO_4.out))) (below_size (by repeat (first | (with_reducible first | exact HB.out | apply below_alloc | apply pw_below_drewN | apply below_drew1) | exact HB.out))));have n3_ := Aside0.mk (below_step (by repeat (first | (with_reducible first | exact HB.out | apply below_alloc | apply pw_below_drewN | apply below_drew1) | exact HB.out)) hb);clear HO_4;clear HO_5;clear HB;have HO_4 := n0_;have HO_5 := n1_;have HO114 := n2_;have HB := n3_;clear n0_ n1_ n2_ n3_;(try clear hb);(try clear hb2);(try clear hk);(try clear hi);(try clear ho0);obtain ⟨Ao59,co59,eo59⟩ := Kd.R_slice HO114.out;subst eo59) | ((with_reducible refine gate_dst (N := 31) rfl ?_);refine Kd.R_lit k34 _ 34 ?hg (N := 31) ?hd (xs := ([] : List (S34))) (inner := []) (ok := fun _ => True) (okp := fun _ => True) ?hr ?hp (fun _ hk => hk) trivial (Below.refl _ _) (Nat.le_refl _) (by simp) ?_;(case hd => rfl);(case hg => rfl);(case hr => first | (go_simp;done) | (go_simp;rfl));(case hp => exact (Reps.none _ _));intro v116 w60 ho61 hb hg_ hnew_;clear hg_ hnew_;(first | rw [← Ny115.out] at ho61 | (simp only [Int.reduceToNat] at ho61;rw [← Ny115.out] at ho61));have n0_ := Aside0.mk (Kd.R_below (by (with_reducible repeat (first | apply Kd.R_alloc | apply Kd.R_drewN | apply Kd.R_drew));exact HO_4.out) hb);have n1_ := Aside0.mk (Kd.R_elder' (by (with_reducible repeat (first | apply Kd.R_alloc | apply Kd.R_drewN | apply Kd.R_drew));exact HO_5.out) (Kd.R_base ho61) hb);have n2_ := Aside0.mk (Kd.R_below (by (with_reducible repeat (first | apply Kd.R_alloc | apply Kd.R_drewN | apply Kd.R_drew));exact HO114.out) hb);have n3_ := Aside0.mk (Kd.R_lower (Kd.R_new' ho61 (Kd.R_lt (by (with_reducible repeat (first | apply Kd.R_alloc | apply Kd.R_drewN | apply Kd.R_drew));exact HO_5.out))) (below_size (by repeat (first | (with_reducible first | exact HB.out | apply below_alloc | apply pw_below_drewN | apply below_drew1) | exact HB.out))));have n4_ := Aside0.mk (below_step (by repeat (first | (with_reducible first | exact HB.out | apply below_alloc | apply pw_below_drewN | apply below_drew1) | exact HB.out)) hb);clear HO_4;clear HO_5;clear HO114;clear HB;have HO_4 := n0_;have HO_5 := n1_;have HO114 := n2_;have HO117 := n3_;have HB := n4_;clear n0_ n1_ n2_ n3_ n4_;clear hb ho61))
      go_ret2
      exact ⟨_,by first | rfl | (simp [errW_none,errW_some,IntKind.wrap_i64,wrap64];done) | (simp [errW_none,errW_some] <;> rfl) | (simp [*,errW_none,errW_some] <;> rfl),by (with_reducible repeat (first | apply Kd.R_alloc | apply Kd.R_drewN | apply Kd.R_drew));exact Kd.R_mono HO117.out (fun _ hk => trivial),by repeat (first | (with_reducible first | exact HB.out | apply below_alloc | apply pw_below_drewN | apply below_drew1) | exact HB.out)⟩
    ·rw [if_neg c7] at H;exact absurd H (by simp)
   ·rw [if_neg c6] at H;have c6b0 : decide (x6_1 < (t101.length : Int)) = false := decide_eq_false c6;clear c6;replace H := Option.bind_eq_some_iff.mp H;obtain ⟨t107,A620,H⟩ := H;replace H : (if t107 = true then (some (x5_1,0)) else (some ((([] : List (S34))),5))) = some (r1,r2) := H;have A62 := Aside0.mk A620;clear A620
    by_cases c63 : t107 = true
    ·subst c63
     have H1 : (some (x5_1,0)) = some (r1,r2) := by rw [if_pos rfl] at H;exact H
     clear H;have H := H1;clear H1;simp only [Option.some.injEq,Prod.mk.injEq] at H;obtain ⟨rfl,rfl⟩ := H;obtain ⟨Ao64,co64,eo64⟩ := Kd.R_slice HO_4.out;subst eo64;obtain ⟨Ao65,co65,eo65⟩ := Kd.R_slice HO_5.out;subst eo65
     go_wp2_with (first | ((with_reducible refine gate_callee (f := 11) rfl ?_);refine goesL_ (some 87) rfl rfl Tryd.func11 (by kernel_rfl) rfl #[.slice Ao65 x5_1.length co65] rfl (by (try simp only [List.map_toArray,List.map_cons,List.map_nil]);first | done | rfl | (simp only [List.length_drop,List.length_take];rfl)) ?_;(with_reducible refine (spec_l06Ok.calls k1 _ _ x5_1 true _ ?side1 ?side2 A62.out).mono ?_);(case side1 => repeat (first | exact (Kd.R_reads' HO_5.out).2.2 | (with_reducible refine Kd.C_alloc ?_ _) | (with_reducible refine Kd.C_drewN ?_ _) | (with_reducible refine Kd.C_drew ?_)));(case side2 => exact (Kd.R_reads' HO_5.out).2.1);rintro e w66 ⟨rfl,hb⟩;refine ⟨_,rfl,?_⟩;have n0_ := Aside0.mk (Kd.R_below (by (with_reducible repeat (first | apply Kd.R_alloc | apply Kd.R_drewN | apply Kd.R_drew));exact HO_4.out) hb);have n1_ := Aside0.mk (Kd.R_below (by (with_reducible repeat (first | apply Kd.R_alloc | apply Kd.R_drewN | apply Kd.R_drew));exact HO_5.out) hb);have n2_ := Aside0.mk (below_step (by repeat (first | (with_reducible first | exact HB.out | apply below_alloc | apply pw_below_drewN | apply below_drew1) | exact HB.out)) hb);clear HO_4;clear HO_5;clear HB;have HO_4 := n0_;have HO_5 := n1_;have HB := n2_;clear n0_ n1_ n2_;(try clear hb);(try clear hb2);(try clear hk);(try clear hi)))
     go_ret2
     exact ⟨_,by first | rfl | (simp [errW_none,errW_some,IntKind.wrap_i64,wrap64];done) | (simp [errW_none,errW_some] <;> rfl) | (simp [*,errW_none,errW_some] <;> rfl),by (with_reducible repeat (first | apply Kd.R_alloc | apply Kd.R_drewN | apply Kd.R_drew));exact HO_5.out,by repeat (first | (with_reducible first | exact HB.out | apply below_alloc | apply pw_below_drewN | apply below_drew1) | exact HB.out)⟩
    ·replace c63 := Bool.eq_false_iff.mpr c63;subst c63
     have H1 : (some ((([] : List (S34))),5)) = some (r1,r2) := by rw [if_neg (show ¬ (false = true) by decide)] at H;exact H
     clear H;have H := H1;clear H1;obtain ⟨y108,hy108⟩ : ∃ y_ : List (S34),y_ = (([] : List (S34))) := ⟨_,rfl⟩
     replace H : (some (y108,5)) = some (r1,r2) := by first | (rw [hy108];with_reducible exact H) | (have H2_ := (Option.bind_some _ _).symm.trans H;rw [hy108];with_reducible exact H2_) | (have H2_ := (Option.bind_some _ _).symm.trans H;with_reducible exact H2_) | with_reducible exact H | (rw [hy108];exact H) | exact H
     have Ny108 := Aside0.mk hy108;clear hy108;simp only [Option.some.injEq,Prod.mk.injEq] at H;obtain ⟨rfl,rfl⟩ := H;obtain ⟨Ao67,co67,eo67⟩ := Kd.R_slice HO_4.out;subst eo67;obtain ⟨Ao68,co68,eo68⟩ := Kd.R_slice HO_5.out;subst eo68
     go_wp2_with (first | ((with_reducible refine gate_callee (f := 11) rfl ?_);refine goesL_ (some 87) rfl rfl Tryd.func11 (by kernel_rfl) rfl #[.slice Ao68 x5_1.length co68] rfl (by (try simp only [List.map_toArray,List.map_cons,List.map_nil]);first | done | rfl | (simp only [List.length_drop,List.length_take];rfl)) ?_;(with_reducible refine (spec_l06Ok.calls k1 _ _ x5_1 false _ ?side1 ?side2 A62.out).mono ?_);(case side1 => repeat (first | exact (Kd.R_reads' HO_5.out).2.2 | (with_reducible refine Kd.C_alloc ?_ _) | (with_reducible refine Kd.C_drewN ?_ _) | (with_reducible refine Kd.C_drew ?_)));(case side2 => exact (Kd.R_reads' HO_5.out).2.1);rintro e w69 ⟨rfl,hb⟩;refine ⟨_,rfl,?_⟩;have n0_ := Aside0.mk (Kd.R_below (by (with_reducible repeat (first | apply Kd.R_alloc | apply Kd.R_drewN | apply Kd.R_drew));exact HO_4.out) hb);have n1_ := Aside0.mk (Kd.R_below (by (with_reducible repeat (first | apply Kd.R_alloc | apply Kd.R_drewN | apply Kd.R_drew));exact HO_5.out) hb);have n2_ := Aside0.mk (below_step (by repeat (first | (with_reducible first | exact HB.out | apply below_alloc | apply pw_below_drewN | apply below_drew1) | exact HB.out)) hb);clear HO_4;clear HO_5;clear HB;have HO_4 := n0_;have HO_5 := n1_;have HB := n2_;clear n0_ n1_ n2_;(try clear hb);(try clear hb2);(try clear hk);(try clear hi)) | ((with_reducible refine gate_dst (N := 89) rfl ?_);refine Kd.R_lit k34 _ 34 ?hg (N := 89) ?hd (xs := ([] : List (S34))) (inner := []) (ok := fun _ => True) (okp := fun _ => True) ?hr ?hp (fun _ hk => hk) trivial (Below.refl _ _) (Nat.le_refl _) (by simp) ?_;(case hd => rfl);(case hg => rfl);(case hr => first | (go_simp;done) | (go_simp;rfl));(case hp => exact (Reps.none _ _));intro v109 w70 ho71 hb hg_ hnew_;clear hg_ hnew_;(first | rw [← Ny108.out] at ho71 | (simp only [Int.reduceToNat] at ho71;rw [← Ny108.out] at ho71));have n0_ := Aside0.mk (Kd.R_below (by (with_reducible repeat (first | apply Kd.R_alloc | apply Kd.R_drewN | apply Kd.R_drew));exact HO_4.out) hb);have n1_ := Aside0.mk (Kd.R_elder' (by (with_reducible repeat (first | apply Kd.R_alloc | apply Kd.R_drewN | apply Kd.R_drew));exact HO_5.out) (Kd.R_base ho71) hb);have n2_ := Aside0.mk (Kd.R_lower (Kd.R_new' ho71 (Kd.R_lt (by (with_reducible repeat (first | apply Kd.R_alloc | apply Kd.R_drewN | apply Kd.R_drew));exact HO_5.out))) (below_size (by repeat (first | (with_reducible first | exact HB.out | apply below_alloc | apply pw_below_drewN | apply below_drew1) | exact HB.out))));have n3_ := Aside0.mk (below_step (by repeat (first | (with_reducible first | exact HB.out | apply below_alloc | apply pw_below_drewN | apply below_drew1) | exact HB.out)) hb);clear HO_4;clear HO_5;clear HB;have HO_4 := n0_;have HO_5 := n1_;have HO110 := n2_;have HB := n3_;clear n0_ n1_ n2_ n3_;clear hb ho71))
     go_ret2
     exact ⟨_,by first | rfl | (simp [errW_none,errW_some,IntKind.wrap_i64,wrap64];done) | (simp [errW_none,errW_some] <;> rfl) | (simp [*,errW_none,errW_some] <;> rfl),by (with_reducible repeat (first | apply Kd.R_alloc | apply Kd.R_drewN | apply Kd.R_drew));exact Kd.R_mono HO110.out (fun _ hk => trivial),by repeat (first | (with_reducible first | exact HB.out | apply below_alloc | apply pw_below_drewN | apply below_drew1) | exact HB.out)⟩
end Go.Proofs.YtiknpcbmcipbcacDoor.G
end

section
namespace Go.Proofs.YtiknpcbmcipbcacDoor.G
open Go.RowKit Go.Proofs.YtiknpcbmcipbcacDoorW.PrintWords Go.Proofs.YtiknpcbmcipbcacDoorW.PrintLast Go.Proofs.YtiknpcbmcipbcacDoorW.PrintMore
attribute [local go_sem] max2_int min2_int max_two min_two max_three min_three max_four min_four
set_option linter.unusedVariables false
set_option linter.unusedSimpArgs false
mutual
def laws_FnExactReadLine.j0 : Nat → ByteArray → List (S34) → Int → List (S34) → Bool → Option (Bool)
 | 0,_,_,_,_,_ => none
 | k + 1,x0,x3,x4,x5,x32 => if x32 = true then (some false) else ((laws_markShipS.f k x5 1).bind fun bt110 => ((laws_heldShipS.f k bt110.2 1).bind fun t112 => (if t112 < 0 then (some false) else (if t112 = bt110.1 then ((impl_ReadLine.f k x0).bind fun bt113 => ((laws_eqShipS.f k bt113.1 x3).bind fun t117 => (if t117 = true then (laws_FnExactReadLine.j1 k bt110.2 bt110.1 (bt113.2 != x4)) else (laws_FnExactReadLine.j1 k bt110.2 bt110.1 true)))) else (some false)))))
def laws_FnExactReadLine.j1 : Nat → List (S34) → Int → Bool → Option (Bool)
 | 0,_,_,_ => none
 | k + 1,x5,x7,x57 => if x57 = true then (some false) else ((laws_heldShipS.f k x5 1).bind fun t118 => (if t118 < 0 then (some false) else (if t118 = x7 then (some true) else (some false))))
end
def laws_FnExactReadLine.f (k : Nat) (a0 : ByteArray) : Option (Bool) := if (a0.size : Int) > 1048576 then (some true) else ((spec_ReadLine.f k a0).bind fun bt101 => ((impl_ReadLine.f k a0).bind fun bt105 => ((laws_eqShipS.f k bt105.1 bt101.1).bind fun t109 => (if t109 = true then (laws_FnExactReadLine.j0 k a0 bt101.1 bt101.2 bt105.1 (bt105.2 != bt101.2)) else (laws_FnExactReadLine.j0 k a0 bt101.1 bt101.2 bt105.1 true)))))
set_option maxHeartbeats 8000000 in
set_option maxRecDepth 100000 in
theorem laws_FnExactReadLine.calls (k : Nat) (a0 : ByteArray) (r : Bool) (w : World) (henv : Env w) (h : laws_FnExactReadLine.f k a0 = some r) :
  Calls Tryd.prog 3 #[.string a0] w fun e w' => e = .returned (.bool r) ∧ Below w.heap.size w w' := by
 have HENV := Aside0.mk henv;clear henv;have HB := Aside0.mk (Below.refl w.heap.size w);have H : (if (a0.size : Int) > 1048576 then (some true) else ((spec_ReadLine.f k a0).bind fun bt101 => ((impl_ReadLine.f k a0).bind fun bt105 => ((laws_eqShipS.f k bt105.1 bt101.1).bind fun t109 => (if t109 = true then (laws_FnExactReadLine.j0 k a0 bt101.1 bt101.2 bt105.1 (bt105.2 != bt101.2)) else (laws_FnExactReadLine.j0 k a0 bt101.1 bt101.2 bt105.1 true)))))) = some r := h;clear h
 by_cases c2 : (a0.size : Int) > 1048576
 ·rw [if_pos c2] at H;have c2b0 : decide (1048576 < (a0.size : Int)) = true := decide_eq_true c2;have c2b1 : decide (1048576 < a0.size) = true := decide_eq_true (by omega);clear c2;obtain rfl := Option.some.inj H
  go_enter Tryd.func3,Tryd.ntmps3
  go_wp2
  go_ret
  exact ⟨by first | rfl | (simp [errW_none,errW_some,IntKind.wrap_i64,wrap64];done) | (simp [errW_none,errW_some] <;> rfl) | (simp [*,errW_none,errW_some] <;> rfl),by repeat (first | (with_reducible first | exact HB.out | apply below_alloc | apply pw_below_drewN | apply below_drew1) | exact HB.out)⟩
 ·rw [if_neg c2] at H;have c2b0 : decide (1048576 < (a0.size : Int)) = false := decide_eq_false c2;have c2b1 : decide (1048576 < a0.size) = false := decide_eq_false (by omega);clear c2;replace H := Option.bind_eq_some_iff.mp H;obtain ⟨⟨t101,t102⟩,A30,H⟩ := H;replace H : ((impl_ReadLine.f k a0).bind fun bt105 => ((laws_eqShipS.f k bt105.1 t101).bind fun t109 => (if t109 = true then (laws_FnExactReadLine.j0 k a0 t101 t102 bt105.1 (bt105.2 != t102)) else (laws_FnExactReadLine.j0 k a0 t101 t102 bt105.1 true)))) = some r := H;have A3 := Aside0.mk A30;clear A30;replace H := Option.bind_eq_some_iff.mp H;obtain ⟨⟨t105,t106⟩,A40,H⟩ := H;replace H : ((laws_eqShipS.f k t105 t101).bind fun t109 => (if t109 = true then (laws_FnExactReadLine.j0 k a0 t101 t102 t105 (t106 != t102)) else (laws_FnExactReadLine.j0 k a0 t101 t102 t105 true))) = some r := H;have A4 := Aside0.mk A40;clear A40;have HC5 := Aside0.mk H;clear H
  go_enter Tryd.func3,Tryd.ntmps3
  go_upto_region 5 with (first | ((with_reducible refine gate_callee (f := 4) rfl ?_);refine goesL_ (some 16) rfl rfl Tryd.func4 (by kernel_rfl) rfl #[.string a0] rfl (by (try simp only [List.map_toArray,List.map_cons,List.map_nil]);first | done | rfl | (simp only [List.length_drop,List.length_take];rfl)) ?_;(with_reducible refine (spec_ReadLine.calls k a0 t101 t102 _ A3.out).mono ?_);rintro e w6 ⟨v103,rfl,ho0,hb⟩;refine ⟨_,rfl,?_⟩;have n0_ := Aside0.mk (Kd.R_lower ho0 (below_size (by repeat (first | (with_reducible first | exact HB.out | apply below_alloc | apply pw_below_drewN | apply below_drew1) | exact HB.out))));have n1_ := Aside0.mk (below_step (by repeat (first | (with_reducible first | exact HB.out | apply below_alloc | apply pw_below_drewN | apply below_drew1) | exact HB.out)) hb);clear HB;have HO104 := n0_;have HB := n1_;clear n0_ n1_;(try clear hb);(try clear hb2);(try clear hk);(try clear hi);(try clear ho0)) | ((with_reducible refine gate_callee (f := 5) rfl ?_);refine goesL_ (some 21) rfl rfl Tryd.func5 (by kernel_rfl) rfl #[.string a0] rfl (by (try simp only [List.map_toArray,List.map_cons,List.map_nil]);first | done | rfl | (simp only [List.length_drop,List.length_take];rfl)) ?_;(with_reducible refine (impl_ReadLine.calls k a0 t105 t106 _ ?side1 A4.out).mono ?_);(case side1 => exact Env_on HENV.out (by repeat (first | (with_reducible first | exact HB.out | apply below_alloc | apply pw_below_drewN | apply below_drew1) | exact HB.out)));rintro e w7 ⟨v107,rfl,ho0,hb⟩;refine ⟨_,rfl,?_⟩;have n0_ := Aside0.mk (Kd.R_elder' (by (with_reducible repeat (first | apply Kd.R_alloc | apply Kd.R_drewN | apply Kd.R_drew));exact HO104.out) (Kd.R_base ho0) hb);have n1_ := Aside0.mk (Kd.R_lower (Kd.R_new' ho0 (Kd.R_lt (by (with_reducible repeat (first | apply Kd.R_alloc | apply Kd.R_drewN | apply Kd.R_drew));exact HO104.out))) (below_size (by repeat (first | (with_reducible first | exact HB.out | apply below_alloc | apply pw_below_drewN | apply below_drew1) | exact HB.out))));have n2_ := Aside0.mk (below_step (by repeat (first | (with_reducible first | exact HB.out | apply below_alloc | apply pw_below_drewN | apply below_drew1) | exact HB.out)) hb);clear HO104;clear HB;have HO104 := n0_;have HO108 := n1_;have HB := n2_;clear n0_ n1_ n2_;(try clear hb);(try clear hb2);(try clear hk);(try clear hi);(try clear ho0)))
  (try simp only [Act.put,List.setIfInBounds_toArray,List.set_cons_zero,List.set_cons_succ])
  go_cut [32] (fun v32 wc => ∃ (kq : Nat) (x32_4 : Bool),v32 = .bool x32_4 ∧ Aside0 (laws_FnExactReadLine.j0 kq a0 t101 t102 t105 x32_4 = some r) ∧ Aside0 (kq ≤ k) ∧ Aside0 (Kd.R k34 34 wc w.heap.size (fun k_ => some k_ ≠ (v107 : Value).ownBlock) v103 t101) ∧ Aside0 (Kd.R k34 34 wc w.heap.size (fun k_ => some k_ ≠ (v103 : Value).ownBlock) v107 t105) ∧ Aside0 (Below w.heap.size w wc))
  case first =>
   have H := HC5.out;clear HC5;replace H := Option.bind_eq_some_iff.mp H;obtain ⟨t109,A80,H⟩ := H;replace H : (if t109 = true then (laws_FnExactReadLine.j0 k a0 t101 t102 t105 (t106 != t102)) else (laws_FnExactReadLine.j0 k a0 t101 t102 t105 true)) = some r := H;have A8 := Aside0.mk A80;clear A80
   by_cases c9 : t109 = true
   ·subst c9
    have H1 : (laws_FnExactReadLine.j0 k a0 t101 t102 t105 (t106 != t102)) = some r := by rw [if_pos rfl] at H;exact H
    clear H;have H := H1;clear H1;have H' := Aside0.mk H;clear H;obtain ⟨Ao10,co10,eo10⟩ := Kd.R_slice HO108.out;subst eo10;obtain ⟨Ao11,co11,eo11⟩ := Kd.R_slice HO104.out;subst eo11
    go_wp2_with (first | ((with_reducible refine gate_callee (f := 6) rfl ?_);refine goesL_ (some 26) rfl rfl Tryd.func6 (by kernel_rfl) rfl #[.slice Ao10 t105.length co10,.slice Ao11 t101.length co11] rfl (by (try simp only [List.map_toArray,List.map_cons,List.map_nil]);first | done | rfl | (simp only [List.length_drop,List.length_take];rfl)) ?_;(with_reducible refine (laws_eqShipS.calls k _ _ t105 _ _ t101 true _ ?side1 ?side2 ?side3 ?side4 A8.out).mono ?_);(case side1 => repeat (first | exact (Kd.R_reads' HO108.out).2.2 | (with_reducible refine Kd.C_alloc ?_ _) | (with_reducible refine Kd.C_drewN ?_ _) | (with_reducible refine Kd.C_drew ?_)));(case side2 => exact (Kd.R_reads' HO108.out).2.1);(case side3 => repeat (first | exact (Kd.R_reads' HO104.out).2.2 | (with_reducible refine Kd.C_alloc ?_ _) | (with_reducible refine Kd.C_drewN ?_ _) | (with_reducible refine Kd.C_drew ?_)));(case side4 => exact (Kd.R_reads' HO104.out).2.1);rintro e w12 ⟨rfl,hb⟩;refine ⟨_,rfl,?_⟩;have n0_ := Aside0.mk (Kd.R_below (by (with_reducible repeat (first | apply Kd.R_alloc | apply Kd.R_drewN | apply Kd.R_drew));exact HO104.out) hb);have n1_ := Aside0.mk (Kd.R_below (by (with_reducible repeat (first | apply Kd.R_alloc | apply Kd.R_drewN | apply Kd.R_drew));exact HO108.out) hb);have n2_ := Aside0.mk (below_step (by repeat (first | (with_reducible first | exact HB.out | apply below_alloc | apply pw_below_drewN | apply below_drew1) | exact HB.out)) hb);clear HO104;clear HO108;clear HB;have HO104 := n0_;have HO108 := n1_;have HB := n2_;clear n0_ n1_ n2_;(try clear hb);(try clear hb2);(try clear hk);(try clear hi)))
    go_meet
    case rel => exact ⟨_,((t106 != t102)),(by first | rfl | (simp only [IntKind.wrap_i64,wrap64];done) | (simp;done) | (simp [*];done)),H',⟨by first | omega | exact Nat.le_refl _⟩,⟨by (with_reducible repeat (first | apply Kd.R_alloc | apply Kd.R_drewN | apply Kd.R_drew));exact Kd.R_mono HO104.out (fun _ hk => hk.2)⟩,⟨by (with_reducible repeat (first | apply Kd.R_alloc | apply Kd.R_drewN | apply Kd.R_drew));exact Kd.R_mono HO108.out (fun _ hk => hk.2)⟩,⟨by repeat (first | (with_reducible first | exact HB.out | apply below_alloc | apply pw_below_drewN | apply below_drew1) | exact HB.out)⟩⟩
   ·replace c9 := Bool.eq_false_iff.mpr c9;subst c9
    have H1 : (laws_FnExactReadLine.j0 k a0 t101 t102 t105 true) = some r := by rw [if_neg (show ¬ (false = true) by decide)] at H;exact H
    clear H;have H := H1;clear H1;have H' := Aside0.mk H;clear H;obtain ⟨Ao13,co13,eo13⟩ := Kd.R_slice HO108.out;subst eo13;obtain ⟨Ao14,co14,eo14⟩ := Kd.R_slice HO104.out;subst eo14
    go_wp2_with (first | ((with_reducible refine gate_callee (f := 6) rfl ?_);refine goesL_ (some 26) rfl rfl Tryd.func6 (by kernel_rfl) rfl #[.slice Ao13 t105.length co13,.slice Ao14 t101.length co14] rfl (by (try simp only [List.map_toArray,List.map_cons,List.map_nil]);first | done | rfl | (simp only [List.length_drop,List.length_take];rfl)) ?_;(with_reducible refine (laws_eqShipS.calls k _ _ t105 _ _ t101 false _ ?side1 ?side2 ?side3 ?side4 A8.out).mono ?_);(case side1 => repeat (first | exact (Kd.R_reads' HO108.out).2.2 | (with_reducible refine Kd.C_alloc ?_ _) | (with_reducible refine Kd.C_drewN ?_ _) | (with_reducible refine Kd.C_drew ?_)));(case side2 => exact (Kd.R_reads' HO108.out).2.1);(case side3 => repeat (first | exact (Kd.R_reads' HO104.out).2.2 | (with_reducible refine Kd.C_alloc ?_ _) | (with_reducible refine Kd.C_drewN ?_ _) | (with_reducible refine Kd.C_drew ?_)));(case side4 => exact (Kd.R_reads' HO104.out).2.1);rintro e w15 ⟨rfl,hb⟩;refine ⟨_,rfl,?_⟩;have n0_ := Aside0.mk (Kd.R_below (by (with_reducible repeat (first | apply Kd.R_alloc | apply Kd.R_drewN | apply Kd.R_drew));exact HO104.out) hb);have n1_ := Aside0.mk (Kd.R_below (by (with_reducible repeat (first | apply Kd.R_alloc | apply Kd.R_drewN | apply Kd.R_drew));exact HO108.out) hb);have n2_ := Aside0.mk (below_step (by repeat (first | (with_reducible first | exact HB.out | apply below_alloc | apply pw_below_drewN | apply below_drew1) | exact HB.out)) hb);clear HO104;clear HO108;clear HB;have HO104 := n0_;have HO108 := n1_;have HB := n2_;clear n0_ n1_ n2_;(try clear hb);(try clear hb2);(try clear hk);(try clear hi)))
    go_meet
    case rel => exact ⟨_,(true),(by first | rfl | (simp only [IntKind.wrap_i64,wrap64];done) | (simp;done) | (simp [*];done)),H',⟨by first | omega | exact Nat.le_refl _⟩,⟨by (with_reducible repeat (first | apply Kd.R_alloc | apply Kd.R_drewN | apply Kd.R_drew));exact Kd.R_mono HO104.out (fun _ hk => hk.2)⟩,⟨by (with_reducible repeat (first | apply Kd.R_alloc | apply Kd.R_drewN | apply Kd.R_drew));exact Kd.R_mono HO108.out (fun _ hk => hk.2)⟩,⟨by repeat (first | (with_reducible first | exact HB.out | apply below_alloc | apply pw_below_drewN | apply below_drew1) | exact HB.out)⟩⟩
  case rest =>
   clear HC5;(try clear c2);(try clear c2b0);(try clear c2b1);(try clear p2);(try clear c3);(try clear c4);(try clear c5);(try clear c6);(try clear c9);obtain ⟨kq,x32_4,rfl,HA,HJ4,HO_3,HO_5,HB⟩ := hcut
   cases kq with
   | zero => exact absurd HA.out (by simp [laws_FnExactReadLine.j0])
   | succ kj4 =>
    have H := HA.out;clear HA;simp only [laws_FnExactReadLine.j0] at H
    by_cases c16 : x32_4 = true
    ·subst c16
     have H1 : (some false) = some r := by rw [if_pos rfl] at H;exact H
     clear H;have H := H1;clear H1;obtain rfl := Option.some.inj H
     go_wp2
     go_ret
     exact ⟨by first | rfl | (simp [errW_none,errW_some,IntKind.wrap_i64,wrap64];done) | (simp [errW_none,errW_some] <;> rfl) | (simp [*,errW_none,errW_some] <;> rfl),by repeat (first | (with_reducible first | exact HB.out | apply below_alloc | apply pw_below_drewN | apply below_drew1) | exact HB.out)⟩
    ·replace c16 := Bool.eq_false_iff.mpr c16;subst c16
     have H1 : ((laws_markShipS.f kj4 t105 1).bind fun bt110 => ((laws_heldShipS.f kj4 bt110.2 1).bind fun t112 => (if t112 < 0 then (some false) else (if t112 = bt110.1 then ((impl_ReadLine.f kj4 a0).bind fun bt113 => ((laws_eqShipS.f kj4 bt113.1 t101).bind fun t117 => (if t117 = true then (laws_FnExactReadLine.j1 kj4 bt110.2 bt110.1 (bt113.2 != t102)) else (laws_FnExactReadLine.j1 kj4 bt110.2 bt110.1 true)))) else (some false))))) = some r := by rw [if_neg (show ¬ (false = true) by decide)] at H;exact H
     clear H;have H := H1;clear H1;replace H := Option.bind_eq_some_iff.mp H;obtain ⟨⟨t110,t111⟩,A170,H⟩ := H;replace H : ((laws_heldShipS.f kj4 t111 1).bind fun t112 => (if t112 < 0 then (some false) else (if t112 = t110 then ((impl_ReadLine.f kj4 a0).bind fun bt113 => ((laws_eqShipS.f kj4 bt113.1 t101).bind fun t117 => (if t117 = true then (laws_FnExactReadLine.j1 kj4 t111 t110 (bt113.2 != t102)) else (laws_FnExactReadLine.j1 kj4 t111 t110 true)))) else (some false)))) = some r := H;have A17 := Aside0.mk A170;clear A170;replace H := Option.bind_eq_some_iff.mp H;obtain ⟨t112,A180,H⟩ := H;replace H : (if t112 < 0 then (some false) else (if t112 = t110 then ((impl_ReadLine.f kj4 a0).bind fun bt113 => ((laws_eqShipS.f kj4 bt113.1 t101).bind fun t117 => (if t117 = true then (laws_FnExactReadLine.j1 kj4 t111 t110 (bt113.2 != t102)) else (laws_FnExactReadLine.j1 kj4 t111 t110 true)))) else (some false))) = some r := H;have A18 := Aside0.mk A180;clear A180
     by_cases c19 : t112 < 0
     ·rw [if_pos c19] at H;have c19b0 : decide (t112 < 0) = true := decide_eq_true c19;clear c19;obtain rfl := Option.some.inj H;obtain ⟨Ao20,co20,eo20⟩ := Kd.R_slice HO_5.out;subst eo20
      go_wp2_with (first | ((with_reducible refine gate_callee (f := 7) rfl ?_);refine goesL_ (some 35) rfl rfl Tryd.func7 (by kernel_rfl) rfl #[.slice Ao20 t105.length co20,.int .i64 1] rfl (by (try simp only [List.map_toArray,List.map_cons,List.map_nil]);first | done | rfl | (simp only [List.length_drop,List.length_take];rfl)) ?_;(with_reducible refine (laws_markShipS.calls kj4 (fun k_ => some k_ = (.slice Ao20 t105.length co20 : Value).ownBlock) (.slice Ao20 t105.length co20) t105 1 t110 t111 w _ ?side1 ?side2 A17.out).mono ?_);(case side1 => repeat (first | (with_reducible first | exact HB.out | apply below_alloc | apply pw_below_drewN | apply below_drew1) | exact HB.out));(case side2 => exact Kd.R_tight rfl HO_5.out);rintro e w21 ⟨rfl,hy0,hb,hkp⟩;refine ⟨_,rfl,?_⟩;have n0_ := Aside0.mk (Kd.R_mono (ok' := fun k_ => some k_ ≠ (.slice Ao20 t105.length co20 : Value).ownBlock) (Kd.R_keptB (HO_3.out) hkp (fun k_ hk_ hs_ => (hk_) hs_)) (fun k_ hk_ => hk_.1));have n1_ := Aside0.mk (Kd.R_reok rfl hy0 (fun k_ e_ => HO_5.out.1 k_ e_));have n2_ := Aside0.mk (hb);clear HO_3;clear HO_5;clear HB;have HO_3 := n0_;have HO_5 := n1_;have HB := n2_;clear n0_ n1_ n2_;(try clear hb);(try clear hkp);(try clear hy0)) | ((with_reducible refine gate_callee (f := 8) rfl ?_);refine goesL_ (some 38) rfl rfl Tryd.func8 (by kernel_rfl) rfl #[.slice Ao20 t111.length co20,.int .i64 1] rfl (by (try simp only [List.map_toArray,List.map_cons,List.map_nil]);first | done | (rw [show t111.length = t105.length from (Kd.R_reads' HO_5.out).1.symm] <;> rfl) | rfl | (simp only [List.length_drop,List.length_take];rfl)) ?_;(with_reducible refine (laws_heldShipS.calls kj4 _ _ t111 1 t112 _ ?side1 ?side2 A18.out).mono ?_);(case side1 => repeat (first | exact (Kd.R_reads' HO_5.out).2.2 | (with_reducible refine Kd.C_alloc ?_ _) | (with_reducible refine Kd.C_drewN ?_ _) | (with_reducible refine Kd.C_drew ?_)));(case side2 => rw [show t111.length = t105.length from (Kd.R_reads' HO_5.out).1.symm];exact (Kd.R_reads' HO_5.out).2.1);rintro e w' ⟨rfl,⟨nd,rfl⟩⟩;refine ⟨_,rfl,?_⟩))
      go_ret
      exact ⟨by first | rfl | (simp [errW_none,errW_some,IntKind.wrap_i64,wrap64];done) | (simp [errW_none,errW_some] <;> rfl) | (simp [*,errW_none,errW_some] <;> rfl),by repeat (first | (with_reducible first | exact HB.out | apply below_alloc | apply pw_below_drewN | apply below_drew1) | exact HB.out)⟩
     ·rw [if_neg c19] at H;have c19b0 : decide (t112 < 0) = false := decide_eq_false c19;clear c19
      by_cases c22 : t112 = t110
      ·rw [if_pos c22] at H;have c22b0 : (t112 == t110) = true := beq_iff_eq.mpr c22;have c22b1 : (t112 != t110) = false := bne_eq_false_iff_eq.mpr c22;clear c22;replace H := Option.bind_eq_some_iff.mp H;obtain ⟨⟨t113,t114⟩,A230,H⟩ := H;replace H : ((laws_eqShipS.f kj4 t113 t101).bind fun t117 => (if t117 = true then (laws_FnExactReadLine.j1 kj4 t111 t110 (t114 != t102)) else (laws_FnExactReadLine.j1 kj4 t111 t110 true))) = some r := H;have A23 := Aside0.mk A230;clear A230;have HC24 := Aside0.mk H;clear H;obtain ⟨Ao25,co25,eo25⟩ := Kd.R_slice HO_5.out;subst eo25
       go_upto_region 16 with (first | ((with_reducible refine gate_callee (f := 7) rfl ?_);refine goesL_ (some 35) rfl rfl Tryd.func7 (by kernel_rfl) rfl #[.slice Ao25 t105.length co25,.int .i64 1] rfl (by (try simp only [List.map_toArray,List.map_cons,List.map_nil]);first | done | rfl | (simp only [List.length_drop,List.length_take];rfl)) ?_;(with_reducible refine (laws_markShipS.calls kj4 (fun k_ => some k_ = (.slice Ao25 t105.length co25 : Value).ownBlock) (.slice Ao25 t105.length co25) t105 1 t110 t111 w _ ?side1 ?side2 A17.out).mono ?_);(case side1 => repeat (first | (with_reducible first | exact HB.out | apply below_alloc | apply pw_below_drewN | apply below_drew1) | exact HB.out));(case side2 => exact Kd.R_tight rfl HO_5.out);rintro e w26 ⟨rfl,hy0,hb,hkp⟩;refine ⟨_,rfl,?_⟩;have n0_ := Aside0.mk (Kd.R_mono (ok' := fun k_ => some k_ ≠ (.slice Ao25 t105.length co25 : Value).ownBlock) (Kd.R_keptB (HO_3.out) hkp (fun k_ hk_ hs_ => (hk_) hs_)) (fun k_ hk_ => hk_.1));have n1_ := Aside0.mk (Kd.R_reok rfl hy0 (fun k_ e_ => HO_5.out.1 k_ e_));have n2_ := Aside0.mk (hb);clear HO_3;clear HO_5;clear HB;have HO_3 := n0_;have HO_5 := n1_;have HB := n2_;clear n0_ n1_ n2_;(try clear hb);(try clear hkp);(try clear hy0)) | ((with_reducible refine gate_callee (f := 8) rfl ?_);refine goesL_ (some 38) rfl rfl Tryd.func8 (by kernel_rfl) rfl #[.slice Ao25 t111.length co25,.int .i64 1] rfl (by (try simp only [List.map_toArray,List.map_cons,List.map_nil]);first | done | (rw [show t111.length = t105.length from (Kd.R_reads' HO_5.out).1.symm] <;> rfl) | rfl | (simp only [List.length_drop,List.length_take];rfl)) ?_;(with_reducible refine (laws_heldShipS.calls kj4 _ _ t111 1 t112 _ ?side1 ?side2 A18.out).mono ?_);(case side1 => repeat (first | exact (Kd.R_reads' HO_5.out).2.2 | (with_reducible refine Kd.C_alloc ?_ _) | (with_reducible refine Kd.C_drewN ?_ _) | (with_reducible refine Kd.C_drew ?_)));(case side2 => rw [show t111.length = t105.length from (Kd.R_reads' HO_5.out).1.symm];exact (Kd.R_reads' HO_5.out).2.1);rintro e w' ⟨rfl,⟨nd,rfl⟩⟩;refine ⟨_,rfl,?_⟩) | ((with_reducible refine gate_callee (f := 5) rfl ?_);refine goesL_ (some 46) rfl rfl Tryd.func5 (by kernel_rfl) rfl #[.string a0] rfl (by (try simp only [List.map_toArray,List.map_cons,List.map_nil]);first | done | rfl | (simp only [List.length_drop,List.length_take];rfl)) ?_;(with_reducible refine (impl_ReadLine.calls kj4 a0 t113 t114 _ ?side1 A23.out).mono ?_);(case side1 => exact Env_on HENV.out (by repeat (first | (with_reducible first | exact HB.out | apply below_alloc | apply pw_below_drewN | apply below_drew1) | exact HB.out)));rintro e w27 ⟨v115,rfl,ho0,hb⟩;refine ⟨_,rfl,?_⟩;have n0_ := Aside0.mk (Kd.R_elder' (by (with_reducible repeat (first | apply Kd.R_alloc | apply Kd.R_drewN | apply Kd.R_drew));exact HO_3.out) (Kd.R_base ho0) hb);have n1_ := Aside0.mk (Kd.R_elder' (by (with_reducible repeat (first | apply Kd.R_alloc | apply Kd.R_drewN | apply Kd.R_drew));exact HO_5.out) (Kd.R_base ho0) hb);have n2_ := Aside0.mk (Kd.R_lower (Kd.R_new' (Kd.R_new' ho0 (Kd.R_lt (by (with_reducible repeat (first | apply Kd.R_alloc | apply Kd.R_drewN | apply Kd.R_drew));exact HO_3.out))) (Kd.R_lt (by (with_reducible repeat (first | apply Kd.R_alloc | apply Kd.R_drewN | apply Kd.R_drew));exact HO_5.out))) (below_size (by repeat (first | (with_reducible first | exact HB.out | apply below_alloc | apply pw_below_drewN | apply below_drew1) | exact HB.out))));have n3_ := Aside0.mk (below_step (by repeat (first | (with_reducible first | exact HB.out | apply below_alloc | apply pw_below_drewN | apply below_drew1) | exact HB.out)) hb);clear HO_3;clear HO_5;clear HB;have HO_3 := n0_;have HO_5 := n1_;have HO116 := n2_;have HB := n3_;clear n0_ n1_ n2_ n3_;(try clear hb);(try clear hb2);(try clear hk);(try clear hi);(try clear ho0)))
       (try simp only [Act.put,List.setIfInBounds_toArray,List.set_cons_zero,List.set_cons_succ])
       go_cut [57] (fun v57 wc => ∃ (kq : Nat) (x57_23 : Bool),v57 = .bool x57_23 ∧ Aside0 (laws_FnExactReadLine.j1 kq t111 t110 x57_23 = some r) ∧ Aside0 (kq ≤ kj4) ∧ Aside0 (Kd.R k34 34 wc w.heap.size (fun _ => True) (.slice Ao25 t105.length co25) t111) ∧ Aside0 (Below w.heap.size w wc))
       case first =>
        have H := HC24.out;clear HC24;replace H := Option.bind_eq_some_iff.mp H;obtain ⟨t117,A280,H⟩ := H;replace H : (if t117 = true then (laws_FnExactReadLine.j1 kj4 t111 t110 (t114 != t102)) else (laws_FnExactReadLine.j1 kj4 t111 t110 true)) = some r := H;have A28 := Aside0.mk A280;clear A280
        by_cases c29 : t117 = true
        ·subst c29
         have H1 : (laws_FnExactReadLine.j1 kj4 t111 t110 (t114 != t102)) = some r := by rw [if_pos rfl] at H;exact H
         clear H;have H := H1;clear H1;have H' := Aside0.mk H;clear H;obtain ⟨Ao30,co30,eo30⟩ := Kd.R_slice HO116.out;subst eo30;obtain ⟨Ao31,co31,eo31⟩ := Kd.R_slice HO_3.out;subst eo31
         go_wp2_with (first | ((with_reducible refine gate_callee (f := 6) rfl ?_);refine goesL_ (some 51) rfl rfl Tryd.func6 (by kernel_rfl) rfl #[.slice Ao30 t113.length co30,.slice Ao31 t101.length co31] rfl (by (try simp only [List.map_toArray,List.map_cons,List.map_nil]);first | done | rfl | (simp only [List.length_drop,List.length_take];rfl)) ?_;(with_reducible refine (laws_eqShipS.calls kj4 _ _ t113 _ _ t101 true _ ?side1 ?side2 ?side3 ?side4 A28.out).mono ?_);(case side1 => repeat (first | exact (Kd.R_reads' HO116.out).2.2 | (with_reducible refine Kd.C_alloc ?_ _) | (with_reducible refine Kd.C_drewN ?_ _) | (with_reducible refine Kd.C_drew ?_)));(case side2 => exact (Kd.R_reads' HO116.out).2.1);(case side3 => repeat (first | exact (Kd.R_reads' HO_3.out).2.2 | (with_reducible refine Kd.C_alloc ?_ _) | (with_reducible refine Kd.C_drewN ?_ _) | (with_reducible refine Kd.C_drew ?_)));(case side4 => exact (Kd.R_reads' HO_3.out).2.1);rintro e w32 ⟨rfl,hb⟩;refine ⟨_,rfl,?_⟩;have n0_ := Aside0.mk (Kd.R_below (by (with_reducible repeat (first | apply Kd.R_alloc | apply Kd.R_drewN | apply Kd.R_drew));exact HO_3.out) hb);have n1_ := Aside0.mk (Kd.R_below (by (with_reducible repeat (first | apply Kd.R_alloc | apply Kd.R_drewN | apply Kd.R_drew));exact HO_5.out) hb);have n2_ := Aside0.mk (Kd.R_below (by (with_reducible repeat (first | apply Kd.R_alloc | apply Kd.R_drewN | apply Kd.R_drew));exact HO116.out) hb);have n3_ := Aside0.mk (below_step (by repeat (first | (with_reducible first | exact HB.out | apply below_alloc | apply pw_below_drewN | apply below_drew1) | exact HB.out)) hb);clear HO_3;clear HO_5;clear HO116;clear HB;have HO_3 := n0_;have HO_5 := n1_;have HO116 := n2_;have HB := n3_;clear n0_ n1_ n2_ n3_;(try clear hb);(try clear hb2);(try clear hk);(try clear hi)))
         go_meet
         case rel => exact ⟨_,((t114 != t102)),(by first | rfl | (simp only [IntKind.wrap_i64,wrap64];done) | (simp;done) | (simp [*];done)),H',⟨by have := HJ4.out;first | omega | exact Nat.le_refl _⟩,⟨by (with_reducible repeat (first | apply Kd.R_alloc | apply Kd.R_drewN | apply Kd.R_drew));exact Kd.R_mono HO_5.out (fun _ hk => trivial)⟩,⟨by repeat (first | (with_reducible first | exact HB.out | apply below_alloc | apply pw_below_drewN | apply below_drew1) | exact HB.out)⟩⟩
        ·replace c29 := Bool.eq_false_iff.mpr c29;subst c29
         have H1 : (laws_FnExactReadLine.j1 kj4 t111 t110 true) = some r := by rw [if_neg (show ¬ (false = true) by decide)] at H;exact H
         clear H;have H := H1;clear H1;have H' := Aside0.mk H;clear H;obtain ⟨Ao33,co33,eo33⟩ := Kd.R_slice HO116.out;subst eo33;obtain ⟨Ao34,co34,eo34⟩ := Kd.R_slice HO_3.out;subst eo34
         go_wp2_with (first | ((with_reducible refine gate_callee (f := 6) rfl ?_);refine goesL_ (some 51) rfl rfl Tryd.func6 (by kernel_rfl) rfl #[.slice Ao33 t113.length co33,.slice Ao34 t101.length co34] rfl (by (try simp only [List.map_toArray,List.map_cons,List.map_nil]);first | done | rfl | (simp only [List.length_drop,List.length_take];rfl)) ?_;(with_reducible refine (laws_eqShipS.calls kj4 _ _ t113 _ _ t101 false _ ?side1 ?side2 ?side3 ?side4 A28.out).mono ?_);(case side1 => repeat (first | exact (Kd.R_reads' HO116.out).2.2 | (with_reducible refine Kd.C_alloc ?_ _) | (with_reducible refine Kd.C_drewN ?_ _) | (with_reducible refine Kd.C_drew ?_)));(case side2 => exact (Kd.R_reads' HO116.out).2.1);(case side3 => repeat (first | exact (Kd.R_reads' HO_3.out).2.2 | (with_reducible refine Kd.C_alloc ?_ _) | (with_reducible refine Kd.C_drewN ?_ _) | (with_reducible refine Kd.C_drew ?_)));(case side4 => exact (Kd.R_reads' HO_3.out).2.1);rintro e w35 ⟨rfl,hb⟩;refine ⟨_,rfl,?_⟩;have n0_ := Aside0.mk (Kd.R_below (by (with_reducible repeat (first | apply Kd.R_alloc | apply Kd.R_drewN | apply Kd.R_drew));exact HO_3.out) hb);have n1_ := Aside0.mk (Kd.R_below (by (with_reducible repeat (first | apply Kd.R_alloc | apply Kd.R_drewN | apply Kd.R_drew));exact HO_5.out) hb);have n2_ := Aside0.mk (Kd.R_below (by (with_reducible repeat (first | apply Kd.R_alloc | apply Kd.R_drewN | apply Kd.R_drew));exact HO116.out) hb);have n3_ := Aside0.mk (below_step (by repeat (first | (with_reducible first | exact HB.out | apply below_alloc | apply pw_below_drewN | apply below_drew1) | exact HB.out)) hb);clear HO_3;clear HO_5;clear HO116;clear HB;have HO_3 := n0_;have HO_5 := n1_;have HO116 := n2_;have HB := n3_;clear n0_ n1_ n2_ n3_;(try clear hb);(try clear hb2);(try clear hk);(try clear hi)))
         go_meet
         case rel => exact ⟨_,(true),(by first | rfl | (simp only [IntKind.wrap_i64,wrap64];done) | (simp;done) | (simp [*];done)),H',⟨by have := HJ4.out;first | omega | exact Nat.le_refl _⟩,⟨by (with_reducible repeat (first | apply Kd.R_alloc | apply Kd.R_drewN | apply Kd.R_drew));exact Kd.R_mono HO_5.out (fun _ hk => trivial)⟩,⟨by repeat (first | (with_reducible first | exact HB.out | apply below_alloc | apply pw_below_drewN | apply below_drew1) | exact HB.out)⟩⟩
       case rest =>
        clear HC24;(try clear c1);(try clear c2);(try clear c2b0);(try clear c2b1);(try clear p2);(try clear c3);(try clear c4);(try clear c5);(try clear c6);(try clear c7);(try clear c8);(try clear c9);(try clear c16);(try clear c19);(try clear c19b0);(try clear c22);(try clear c22b0);(try clear c22b1);(try clear c29);(try clear p2);obtain ⟨kq,x57_23,rfl,HA,HJ23,HO_5,HB⟩ := hcut;have hl5_23 := (Kd.R_reads' HO_5.out).1;rw [hl5_23] at HO_5;(try simp only [hl5_23])
        cases kq with
        | zero => exact absurd HA.out (by simp [laws_FnExactReadLine.j1])
        | succ kj23 =>
         have H := HA.out;clear HA;simp only [laws_FnExactReadLine.j1] at H
         by_cases c36 : x57_23 = true
         ·subst c36
          have H1 : (some false) = some r := by rw [if_pos rfl] at H;exact H
          clear H;have H := H1;clear H1;obtain rfl := Option.some.inj H
          go_wp2
          go_ret
          exact ⟨by first | rfl | (simp [errW_none,errW_some,IntKind.wrap_i64,wrap64];done) | (simp [errW_none,errW_some] <;> rfl) | (simp [*,errW_none,errW_some] <;> rfl),by repeat (first | (with_reducible first | exact HB.out | apply below_alloc | apply pw_below_drewN | apply below_drew1) | exact HB.out)⟩
         ·replace c36 := Bool.eq_false_iff.mpr c36;subst c36
          have H1 : ((laws_heldShipS.f kj23 t111 1).bind fun t118 => (if t118 < 0 then (some false) else (if t118 = t110 then (some true) else (some false)))) = some r := by rw [if_neg (show ¬ (false = true) by decide)] at H;exact H
          clear H;have H := H1;clear H1;replace H := Option.bind_eq_some_iff.mp H;obtain ⟨t118,A370,H⟩ := H;replace H : (if t118 < 0 then (some false) else (if t118 = t110 then (some true) else (some false))) = some r := H;have A37 := Aside0.mk A370;clear A370
          by_cases c38 : t118 < 0
          ·rw [if_pos c38] at H;have c38b0 : decide (t118 < 0) = true := decide_eq_true c38;clear c38;obtain rfl := Option.some.inj H
           go_wp2_with (first | ((with_reducible refine gate_callee (f := 8) rfl ?_);refine goesL_ (some 60) rfl rfl Tryd.func8 (by kernel_rfl) rfl #[.slice Ao25 t111.length co25,.int .i64 1] rfl (by (try simp only [List.map_toArray,List.map_cons,List.map_nil]);first | done | rfl | (simp only [List.length_drop,List.length_take];rfl)) ?_;(with_reducible refine (laws_heldShipS.calls kj23 _ _ t111 1 t118 _ ?side1 ?side2 A37.out).mono ?_);(case side1 => repeat (first | exact (Kd.R_reads' HO_5.out).2.2 | (with_reducible refine Kd.C_alloc ?_ _) | (with_reducible refine Kd.C_drewN ?_ _) | (with_reducible refine Kd.C_drew ?_)));(case side2 => exact (Kd.R_reads' HO_5.out).2.1);rintro e w' ⟨rfl,⟨nd,rfl⟩⟩;refine ⟨_,rfl,?_⟩))
           go_ret
           exact ⟨by first | rfl | (simp [errW_none,errW_some,IntKind.wrap_i64,wrap64];done) | (simp [errW_none,errW_some] <;> rfl) | (simp [*,errW_none,errW_some] <;> rfl),by repeat (first | (with_reducible first | exact HB.out | apply below_alloc | apply pw_below_drewN | apply below_drew1) | exact HB.out)⟩
          ·rw [if_neg c38] at H;have c38b0 : decide (t118 < 0) = false := decide_eq_false c38;clear c38
           by_cases c39 : t118 = t110
           ·rw [if_pos c39] at H;have c39b0 : (t118 == t110) = true := beq_iff_eq.mpr c39;have c39b1 : (t118 != t110) = false := bne_eq_false_iff_eq.mpr c39;clear c39;obtain rfl := Option.some.inj H
            go_wp2_with (first | ((with_reducible refine gate_callee (f := 8) rfl ?_);refine goesL_ (some 60) rfl rfl Tryd.func8 (by kernel_rfl) rfl #[.slice Ao25 t111.length co25,.int .i64 1] rfl (by (try simp only [List.map_toArray,List.map_cons,List.map_nil]);first | done | rfl | (simp only [List.length_drop,List.length_take];rfl)) ?_;(with_reducible refine (laws_heldShipS.calls kj23 _ _ t111 1 t118 _ ?side1 ?side2 A37.out).mono ?_);(case side1 => repeat (first | exact (Kd.R_reads' HO_5.out).2.2 | (with_reducible refine Kd.C_alloc ?_ _) | (with_reducible refine Kd.C_drewN ?_ _) | (with_reducible refine Kd.C_drew ?_)));(case side2 => exact (Kd.R_reads' HO_5.out).2.1);rintro e w' ⟨rfl,⟨nd,rfl⟩⟩;refine ⟨_,rfl,?_⟩))
            go_ret
            exact ⟨by first | rfl | (simp [errW_none,errW_some,IntKind.wrap_i64,wrap64];done) | (simp [errW_none,errW_some] <;> rfl) | (simp [*,errW_none,errW_some] <;> rfl),by repeat (first | (with_reducible first | exact HB.out | apply below_alloc | apply pw_below_drewN | apply below_drew1) | exact HB.out)⟩
           ·rw [if_neg c39] at H;have c39b0 : (t118 == t110) = false := beq_eq_false_iff_ne.mpr c39;have c39b1 : (t118 != t110) = true := bne_iff_ne.mpr c39;obtain rfl := Option.some.inj H
            go_wp2_with (first | ((with_reducible refine gate_callee (f := 8) rfl ?_);refine goesL_ (some 60) rfl rfl Tryd.func8 (by kernel_rfl) rfl #[.slice Ao25 t111.length co25,.int .i64 1] rfl (by (try simp only [List.map_toArray,List.map_cons,List.map_nil]);first | done | rfl | (simp only [List.length_drop,List.length_take];rfl)) ?_;(with_reducible refine (laws_heldShipS.calls kj23 _ _ t111 1 t118 _ ?side1 ?side2 A37.out).mono ?_);(case side1 => repeat (first | exact (Kd.R_reads' HO_5.out).2.2 | (with_reducible refine Kd.C_alloc ?_ _) | (with_reducible refine Kd.C_drewN ?_ _) | (with_reducible refine Kd.C_drew ?_)));(case side2 => exact (Kd.R_reads' HO_5.out).2.1);rintro e w' ⟨rfl,⟨nd,rfl⟩⟩;refine ⟨_,rfl,?_⟩))
            go_ret
            exact ⟨by first | rfl | (simp [errW_none,errW_some,IntKind.wrap_i64,wrap64];done) | (simp [errW_none,errW_some] <;> rfl) | (simp [*,errW_none,errW_some] <;> rfl),by repeat (first | (with_reducible first | exact HB.out | apply below_alloc | apply pw_below_drewN | apply below_drew1) | exact HB.out)⟩
      ·rw [if_neg c22] at H;have c22b0 : (t112 == t110) = false := beq_eq_false_iff_ne.mpr c22;have c22b1 : (t112 != t110) = true := bne_iff_ne.mpr c22;obtain rfl := Option.some.inj H;obtain ⟨Ao40,co40,eo40⟩ := Kd.R_slice HO_5.out;subst eo40
       go_wp2_with (first | ((with_reducible refine gate_callee (f := 7) rfl ?_);refine goesL_ (some 35) rfl rfl Tryd.func7 (by kernel_rfl) rfl #[.slice Ao40 t105.length co40,.int .i64 1] rfl (by (try simp only [List.map_toArray,List.map_cons,List.map_nil]);first | done | rfl | (simp only [List.length_drop,List.length_take];rfl)) ?_;(with_reducible refine (laws_markShipS.calls kj4 (fun k_ => some k_ = (.slice Ao40 t105.length co40 : Value).ownBlock) (.slice Ao40 t105.length co40) t105 1 t110 t111 w _ ?side1 ?side2 A17.out).mono ?_);(case side1 => repeat (first | (with_reducible first | exact HB.out | apply below_alloc | apply pw_below_drewN | apply below_drew1) | exact HB.out));(case side2 => exact Kd.R_tight rfl HO_5.out);rintro e w41 ⟨rfl,hy0,hb,hkp⟩;refine ⟨_,rfl,?_⟩;have n0_ := Aside0.mk (Kd.R_mono (ok' := fun k_ => some k_ ≠ (.slice Ao40 t105.length co40 : Value).ownBlock) (Kd.R_keptB (HO_3.out) hkp (fun k_ hk_ hs_ => (hk_) hs_)) (fun k_ hk_ => hk_.1));have n1_ := Aside0.mk (Kd.R_reok rfl hy0 (fun k_ e_ => HO_5.out.1 k_ e_));have n2_ := Aside0.mk (hb);clear HO_3;clear HO_5;clear HB;have HO_3 := n0_;have HO_5 := n1_;have HB := n2_;clear n0_ n1_ n2_;(try clear hb);(try clear hkp);(try clear hy0)) | ((with_reducible refine gate_callee (f := 8) rfl ?_);refine goesL_ (some 38) rfl rfl Tryd.func8 (by kernel_rfl) rfl #[.slice Ao40 t111.length co40,.int .i64 1] rfl (by (try simp only [List.map_toArray,List.map_cons,List.map_nil]);first | done | (rw [show t111.length = t105.length from (Kd.R_reads' HO_5.out).1.symm] <;> rfl) | rfl | (simp only [List.length_drop,List.length_take];rfl)) ?_;(with_reducible refine (laws_heldShipS.calls kj4 _ _ t111 1 t112 _ ?side1 ?side2 A18.out).mono ?_);(case side1 => repeat (first | exact (Kd.R_reads' HO_5.out).2.2 | (with_reducible refine Kd.C_alloc ?_ _) | (with_reducible refine Kd.C_drewN ?_ _) | (with_reducible refine Kd.C_drew ?_)));(case side2 => rw [show t111.length = t105.length from (Kd.R_reads' HO_5.out).1.symm];exact (Kd.R_reads' HO_5.out).2.1);rintro e w' ⟨rfl,⟨nd,rfl⟩⟩;refine ⟨_,rfl,?_⟩))
       go_ret
       exact ⟨by first | rfl | (simp [errW_none,errW_some,IntKind.wrap_i64,wrap64];done) | (simp [errW_none,errW_some] <;> rfl) | (simp [*,errW_none,errW_some] <;> rfl),by repeat (first | (with_reducible first | exact HB.out | apply below_alloc | apply pw_below_drewN | apply below_drew1) | exact HB.out)⟩
end Go.Proofs.YtiknpcbmcipbcacDoor.G
end

section
namespace Go.Proofs.YtiknpcbmcipbcacDoor.G.Pure
open Go.RowKit Go.Proofs.YtiknpcbmcipbcacDoor.G Go.Proofs.YtiknpcbmcipbcacDoorW.PrintWords Go.Proofs.YtiknpcbmcipbcacDoorW.PrintLast Go.Proofs.YtiknpcbmcipbcacDoorW.PrintMore
set_option linter.unusedVariables false
set_option linter.unusedSimpArgs false
theorem w64 {n : Int} (h0 : -9223372036854775808 ≤ n) (h1 : n ≤ 9223372036854775807) : wrap64 n = n := by
  unfold wrap64
  omega
theorem i8b {n : Int} (h : (Lit.int .i8 n).wf = true) : -128 ≤ n ∧ n ≤ 127 := by
  simp [Lit.wf, IntKind.min, IntKind.max, IntKind.signed, IntKind.bits] at h
  omega
theorem loop_inv {σ γ : Type} (L : Nat → σ → Option γ) (n : Nat) (I : Nat → σ → Prop) (R : γ → Prop)
    (hs : ∀ k i s, i < n → I i s → (∃ s', I (i + 1) s' ∧ L (k + 1) s = L k s') ∨ (∃ r, R r ∧ L (k + 1) s = some r))
    (he : ∀ k s, I n s → ∃ r, R r ∧ L (k + 1) s = some r) : ∀ k s, I 0 s → n < k → ∃ r, R r ∧ L k s = some r := by
  have go : ∀ d i k s, i + d = n → I i s → d < k → ∃ r, R r ∧ L k s = some r := by
    intro d
    induction d with
    | zero =>
      intro i k s hi hI hk
      obtain ⟨k, rfl⟩ : ∃ m, k = m + 1 := ⟨k - 1, by omega⟩
      obtain rfl : i = n := by omega
      exact he k s hI
    | succ d ih =>
      intro i k s hi hI hk
      obtain ⟨k, rfl⟩ : ∃ m, k = m + 1 := ⟨k - 1, by omega⟩
      rcases hs k i s (by omega) hI with ⟨s', hI', h⟩ | h
      · rw [h]
        exact ih (i + 1) k s' (by omega) hI' (by omega)
      · exact h
  intro k s hI hk
  exact go n 0 k s (by omega) hI hk
end Go.Proofs.YtiknpcbmcipbcacDoor.G.Pure
end

section
namespace Go.Proofs.YtiknpcbmcipbcacDoor.G.Pure
open Go.RowKit Go.Proofs.YtiknpcbmcipbcacDoor.G Go.Proofs.YtiknpcbmcipbcacDoorW.PrintWords Go.Proofs.YtiknpcbmcipbcacDoorW.PrintLast Go.Proofs.YtiknpcbmcipbcacDoorW.PrintMore
set_option linter.unusedVariables false
set_option linter.unusedSimpArgs false
theorem loop_inv2 {σ γ : Type} (L : Nat → σ → Option γ) (n K0 : Nat) (I : Nat → σ → Prop) (R : γ → Prop)
    (hs : ∀ k i s, i < n → K0 ≤ k → I i s → (∃ s', I (i + 1) s' ∧ L (k + 1) s = L k s') ∨ (∃ r, R r ∧ L (k + 1) s = some r))
    (he : ∀ k s, K0 ≤ k → I n s → ∃ r, R r ∧ L (k + 1) s = some r) : ∀ k s, I 0 s → n + K0 < k → ∃ r, R r ∧ L k s = some r := by
  have go : ∀ d i k s, i + d = n → I i s → d + K0 < k → ∃ r, R r ∧ L k s = some r := by
    intro d
    induction d with
    | zero =>
      intro i k s hi hI hk
      obtain ⟨k, rfl⟩ : ∃ m, k = m + 1 := ⟨k - 1, by omega⟩
      obtain rfl : i = n := by omega
      exact he k s (by omega) hI
    | succ d ih =>
      intro i k s hi hI hk
      obtain ⟨k, rfl⟩ : ∃ m, k = m + 1 := ⟨k - 1, by omega⟩
      rcases hs k i s (by omega) (by omega) hI with ⟨s', hI', h⟩ | h
      · rw [h]
        exact ih (i + 1) k s' (by omega) hI' (by omega)
      · exact h
  intro k s hI hk
  exact go n 0 k s (by omega) hI (by omega)
end Go.Proofs.YtiknpcbmcipbcacDoor.G.Pure
end

section
namespace Go.Proofs.YtiknpcbmcipbcacDoor.G.Pure
open Go.RowKit Go.Proofs.YtiknpcbmcipbcacDoor.G Go.Proofs.YtiknpcbmcipbcacDoorW.PrintWords Go.Proofs.YtiknpcbmcipbcacDoorW.PrintLast Go.Proofs.YtiknpcbmcipbcacDoorW.PrintMore
set_option linter.unusedVariables false
set_option linter.unusedSimpArgs false
abbrev bs (l : List UInt8) : ByteArray := ⟨l.toArray⟩
theorem bs_size (l : List UInt8) : (bs l).size = l.length := by simp [bs, ByteArray.size]
theorem dec_len (k : Nat) : ∀ n : Nat, n < 10 ^ (k + 1) → (Lib.decDigits n).length ≤ k + 1 := by
  induction k with
  | zero =>
    intro n h
    rw [Lib.decDigits_one (by omega)]
    simp
  | succ k ih =>
    intro n h
    by_cases h1 : n < 10
    · rw [Lib.decDigits_one h1]
      simp
    · rw [Lib.decDigits, dif_neg h1, List.length_append]
      have := ih (n / 10) (by rw [Nat.pow_succ] at h; omega)
      simp
      omega
end Go.Proofs.YtiknpcbmcipbcacDoor.G.Pure
end

section
namespace Go.Proofs.YtiknpcbmcipbcacDoor.G.Pure
open Go.RowKit Go.Proofs.YtiknpcbmcipbcacDoor.G Go.Proofs.YtiknpcbmcipbcacDoorW.PrintWords Go.Proofs.YtiknpcbmcipbcacDoorW.PrintLast Go.Proofs.YtiknpcbmcipbcacDoorW.PrintMore
set_option linter.unusedVariables false
set_option linter.unusedSimpArgs false
theorem rdB {ps : List (List UInt8)} {i : Nat} (h : i < ps.length) : rdOf ByteArray.empty (ps.map bs) (i : Int) = bs ps[i] := by
  show (ps.map bs).getD i ByteArray.empty = bs ps[i]
  rw [List.getD_eq_getElem?_getD, List.getElem?_map, List.getElem?_eq_getElem h]
  rfl
end Go.Proofs.YtiknpcbmcipbcacDoor.G.Pure
end

section
namespace Go.Proofs.YtiknpcbmcipbcacDoor.G.Pure
open Go.RowKit Go.Proofs.YtiknpcbmcipbcacDoor.G Go.Proofs.YtiknpcbmcipbcacDoorW.PrintWords Go.Proofs.YtiknpcbmcipbcacDoorW.PrintLast Go.Proofs.YtiknpcbmcipbcacDoorW.PrintMore
set_option linter.unusedVariables false
set_option linter.unusedSimpArgs false
theorem decFrom_snoc (b : UInt8) : ∀ (l : List UInt8) (acc : Nat), Lib.decFrom acc (l ++ [b]) = (Lib.decFrom acc l).bind fun m => (Lib.digitVal b).map fun d => m * 10 + d
  | [], acc => by
    simp only [List.nil_append, Lib.decFrom, Option.bind_some]
    cases Lib.digitVal b <;> rfl
  | a :: l, acc => by
    simp only [List.cons_append, Lib.decFrom]
    cases Lib.digitVal a with
    | none => rfl
    | some d => exact decFrom_snoc b l _
theorem ofNat_toNat {d : Nat} (h : d < 10) : (UInt8.ofNat (48 + d)).toNat = 48 + d := by
  simp only [UInt8.toNat_ofNat']
  omega
theorem digit_byte {d : Nat} (h : d < 10) : Lib.digitVal (UInt8.ofNat (48 + d)) = some d := by
  unfold Lib.digitVal
  rw [ofNat_toNat h, if_pos (by omega)]
  congr 1
  omega
theorem byte_digit {b : UInt8} {d : Nat} (h : Lib.digitVal b = some d) : d < 10 ∧ b = UInt8.ofNat (48 + d) := by
  obtain ⟨h0, h1, h2⟩ := Lib.digitVal_eq h
  refine ⟨by omega, UInt8.toNat_inj.1 ?_⟩
  rw [ofNat_toNat (by omega)]
  omega
theorem digits_from (n : Nat) : Lib.decFrom 0 (Lib.decDigits n) = some n := by
  induction n using Nat.strongRecOn with
  | _ n ih =>
    by_cases h : n < 10
    · rw [Lib.decDigits_one h]
      simp only [Lib.decFrom, digit_byte h]
      congr 1
      omega
    · rw [Lib.decDigits, dif_neg h, decFrom_snoc, ih (n / 10) (by omega), Option.bind_some, digit_byte (by omega)]
      simp only [Option.map_some]
      congr 1
      omega
theorem digits_head (n : Nat) : 10 ≤ n → ∃ b r, Lib.decDigits n = b :: r ∧ b ≠ 48 := by
  induction n using Nat.strongRecOn with
  | _ n ih =>
    intro h
    rw [Lib.decDigits, dif_neg (by omega)]
    by_cases h1 : n / 10 < 10
    · rw [Lib.decDigits_one h1]
      refine ⟨_, _, rfl, fun e => ?_⟩
      have := congrArg UInt8.toNat e
      rw [ofNat_toNat h1] at this
      have e48 : (48 : UInt8).toNat = 48 := rfl
      omega
    · obtain ⟨b, r, e, hb⟩ := ih (n / 10) (by omega) (by omega)
      rw [e]
      exact ⟨b, _, rfl, hb⟩
theorem digits_back : ∀ (k : Nat) (l : List UInt8), l.length = k + 1 → ∀ n, Lib.decFrom 0 l = some n → (l.head? = some 48 → l.length = 1) → l = Lib.decDigits n := by
  intro k
  induction k with
  | zero =>
    intro l hl n h _
    match l, hl with
    | [b], _ =>
      simp only [Lib.decFrom] at h
      cases e : Lib.digitVal b with
      | none => rw [e] at h; cases h
      | some d =>
        rw [e] at h
        obtain ⟨hd, hb⟩ := byte_digit e
        simp only [Option.some.injEq] at h
        have : n = d := by omega
        subst this
        rw [Lib.decDigits_one hd, hb]
  | succ k ih =>
    intro l hl n h hh
    have hne : l ≠ [] := by intro e; rw [e] at hl; simp at hl
    obtain ⟨p, b, rfl⟩ : ∃ p b, l = p ++ [b] := ⟨_, _, (List.dropLast_concat_getLast hne).symm⟩
    rw [List.length_append, List.length_singleton] at hl
    rw [decFrom_snoc] at h
    cases em : Lib.decFrom 0 p with
    | none => rw [em] at h; cases h
    | some m =>
      rw [em, Option.bind_some] at h
      cases ed : Lib.digitVal b with
      | none => rw [ed] at h; cases h
      | some d =>
        rw [ed, Option.map_some, Option.some.injEq] at h
        obtain ⟨hd, hb⟩ := byte_digit ed
        obtain ⟨c, r, hp⟩ : ∃ c r, p = c :: r := by
          cases p with
          | nil => simp at hl
          | cons c r => exact ⟨c, r, rfl⟩
        have hc : ¬ p.head? = some 48 := fun e => by
          have := hh (by rw [hp] at e ⊢; simpa using e)
          rw [List.length_append, List.length_singleton] at this
          omega
        have e := ih p (by omega) m em (fun e => absurd e hc)
        have hm : 1 ≤ m := by
          rcases Nat.eq_zero_or_pos m with h0 | h0
          · subst h0
            rw [Lib.decDigits_one (by omega)] at e
            exact absurd (by rw [e]; rfl) hc
          · exact h0
        rw [Lib.decDigits, dif_neg (by omega), show n / 10 = m by omega, show n % 10 = d by omega, ← e, ← hb]
def numO (l : List UInt8) : Option Nat := if l = [] then none else if 9 < l.length then none else if l.head? = some 48 ∧ 1 < l.length then none else Lib.decFrom 0 l
theorem numO_some {l : List UInt8} {n : Nat} (h : numO l = some n) : l = Lib.decDigits n ∧ n < 1000000000 := by
  unfold numO at h
  split at h
  · cases h
  · split at h
    · cases h
    · split at h
      · cases h
      · rename_i h1 h2 h3
        have hl : 1 ≤ l.length := by
          cases l with
          | nil => exact absurd rfl h1
          | cons _ _ => simp
        refine ⟨digits_back (l.length - 1) l (by omega) n h (fun e => ?_), ?_⟩
        · rcases Nat.lt_or_ge 1 l.length with h4 | h4
          · exact absurd ⟨e, h4⟩ h3
          · omega
        · have := Lib.decFrom_lt l 0 n h
          have h5 : 10 ^ l.length ≤ 10 ^ 9 := Nat.pow_le_pow_right (by omega) (by omega)
          omega
theorem digits_ne (n : Nat) : Lib.decDigits n ≠ [] := fun e => by
  by_cases h : n < 10
  · rw [Lib.decDigits_one h] at e
    cases e
  · obtain ⟨b, r, e1, _⟩ := digits_head n (by omega)
    rw [e1] at e
    cases e
theorem numO_digits {n : Nat} (h : n < 1000000000) : numO (Lib.decDigits n) = some n := by
  unfold numO
  have hl := dec_len 8 n (by omega)
  rw [if_neg (digits_ne n), if_neg (by omega), if_neg, digits_from]
  rintro ⟨h1, h2⟩
  by_cases h3 : n < 10
  · rw [Lib.decDigits_one h3] at h2
    simp at h2
  · obtain ⟨b, r, e, hb⟩ := digits_head n (by omega)
    rw [e] at h1
    exact hb (by simpa using h1)
theorem decFrom_ge : ∀ (l : List UInt8) (acc n : Nat), Lib.decFrom acc l = some n → acc ≤ n
  | [], acc, n, h => by
    simp only [Lib.decFrom, Option.some.injEq] at h
    omega
  | b :: l, acc, n, h => by
    simp only [Lib.decFrom] at h
    cases e : Lib.digitVal b with
    | none => rw [e] at h; cases h
    | some d =>
      rw [e] at h
      have := decFrom_ge l _ n h
      omega
theorem parseM_of : ∀ (l : List UInt8) (acc n : Nat), Lib.decFrom acc l = some n → n < 1000000000000000000 → Lib.parseUintM (2 ^ 64 - 1) acc l = .ok n
  | [], acc, n, h, _ => by
    simp only [Lib.decFrom, Option.some.injEq] at h
    subst h
    rfl
  | b :: l, acc, n, h, hn => by
    simp only [Lib.decFrom] at h
    cases e : Lib.digitVal b with
    | none => rw [e] at h; cases h
    | some d =>
      rw [e] at h
      obtain ⟨h0, h1, h2⟩ := Lib.digitVal_eq e
      have h3 := decFrom_ge l _ n h
      unfold Lib.parseUintM
      rw [if_pos ⟨h0, h1⟩, if_neg (by omega), if_neg (by omega), ← h2]
      exact parseM_of l _ n h hn
theorem parse_digits {n : Nat} (h : n < 1000000000) : Lib.parseIntB 64 (Lib.decDigits n) = .ok (n : Int) := by
  have hf := digits_from n
  have hne := digits_ne n
  generalize Lib.decDigits n = l at hf hne
  cases l with
  | nil => exact absurd rfl hne
  | cons c r =>
    have hc : 48 ≤ c.toNat := by
      simp only [Lib.decFrom] at hf
      cases e : Lib.digitVal c with
      | none => rw [e] at hf; cases hf
      | some d => exact (Lib.digitVal_eq e).1
    have hp := parseM_of _ _ _ hf (by omega)
    unfold Lib.parseIntB Lib.parseUintB
    simp only
    rw [if_neg (show ¬ (c.toNat = 43 ∨ c.toNat = 45) by omega), if_neg (show ¬ (c :: r = []) by simp), hp]
    simp only
    rw [if_neg (by omega), if_neg (by omega), if_neg (by omega)]
end Go.Proofs.YtiknpcbmcipbcacDoor.G.Pure
end

section
namespace Go.Proofs.YtiknpcbmcipbcacDoor.G.Pure
open Go.RowKit Go.Proofs.YtiknpcbmcipbcacDoor.G Go.Proofs.YtiknpcbmcipbcacDoorW.PrintWords Go.Proofs.YtiknpcbmcipbcacDoorW.PrintLast Go.Proofs.YtiknpcbmcipbcacDoorW.PrintMore
set_option linter.unusedVariables false
set_option linter.unusedSimpArgs false
theorem itoa_nat (n : Nat) : Lib.itoa (n : Int) = Lib.decDigits n := by
  unfold Lib.itoa
  rw [if_neg (by omega)]
  rfl
theorem implNumber (l : List UInt8) (hl : l.length ≤ 281474976710656) (most : Int) (h1 : most < 1000000000) : impl_number.f (bs l) most = some (match numO l with | some n => if (n : Int) ≤ most then ((n : Int), true) else (0, false) | none => (0, false)) := by
  unfold impl_number.f
  rw [bs_size, if_pos hl]
  have hd : (bs l).data.toList = l := rfl
  rw [hd]
  cases hn : numO l with
  | some n =>
    obtain ⟨he, hb⟩ := numO_some hn
    rw [he, parse_digits hb]
    simp only
    have : impl_number.is (bs (Lib.decDigits n)) most (n : Int) = decide ((n : Int) ≤ most) := by
      unfold impl_number.is
      rw [decide_eq_true (show Lib.itoa (n : Int) = (bs (Lib.decDigits n)).data.toList from itoa_nat n), decide_eq_true (show (0 : Int) ≤ (n : Int) by omega)]
      simp
    rw [this]
    by_cases h : (n : Int) ≤ most
    · rw [if_pos h, decide_eq_true h]
      rfl
    · rw [if_neg h, decide_eq_false h]
      rfl
  | none =>
    cases hp : Lib.parseIntB 64 l with
    | «syntax» => rfl
    | range => rfl
    | ok v =>
      simp only
      have : impl_number.is (bs l) most v = false := by
        cases e : impl_number.is (bs l) most v with
        | false => rfl
        | true =>
          unfold impl_number.is at e
          simp only [Bool.and_eq_true, decide_eq_true_eq] at e
          obtain ⟨e1, e2, e3⟩ := e
          obtain ⟨n, rfl⟩ : ∃ n : Nat, v = (n : Int) := ⟨v.toNat, by omega⟩
          rw [itoa_nat] at e1
          have e4 : l = Lib.decDigits n := e1.symm
          rw [e4, numO_digits (by omega)] at hn
          cases hn
      rw [this]
      rfl
end Go.Proofs.YtiknpcbmcipbcacDoor.G.Pure
end

section
namespace Go.Proofs.YtiknpcbmcipbcacDoor.G.Pure
open Go.RowKit Go.Proofs.YtiknpcbmcipbcacDoor.G Go.Proofs.YtiknpcbmcipbcacDoorW.PrintWords Go.Proofs.YtiknpcbmcipbcacDoorW.PrintLast Go.Proofs.YtiknpcbmcipbcacDoorW.PrintMore
set_option linter.unusedVariables false
set_option linter.unusedSimpArgs false
abbrev Sp := S34
theorem rd_impl_Ship {l : List (S34)} {i : Nat} (h : i < l.length) : rd_T34 l (i : Int) = l[i] := by
  simp [rd_T34, List.getD_eq_getElem?_getD, List.getElem?_eq_getElem h]
end Go.Proofs.YtiknpcbmcipbcacDoor.G.Pure
end

section
namespace Go.Proofs.YtiknpcbmcipbcacDoor.G.Pure
open Go.RowKit Go.Proofs.YtiknpcbmcipbcacDoor.G Go.Proofs.YtiknpcbmcipbcacDoorW.PrintWords Go.Proofs.YtiknpcbmcipbcacDoorW.PrintLast Go.Proofs.YtiknpcbmcipbcacDoorW.PrintMore
set_option linter.unusedVariables false
set_option linter.unusedSimpArgs false
def spl (c : UInt8) : List UInt8 → List (List UInt8)
  | [] => [[]]
  | b :: l => if b = c then [] :: spl c l else (match spl c l with | [] => [[b]] | h :: t => (b :: h) :: t)
theorem spl_ne (c : UInt8) (l : List UInt8) : spl c l ≠ [] := by
  cases l with
  | nil => simp [spl]
  | cons b l =>
    unfold spl
    split
    · simp
    · split <;> simp
theorem spl_miss (c : UInt8) : ∀ (s : List UInt8), (∀ b ∈ s, b ≠ c) → spl c s = [s]
  | [], _ => rfl
  | b :: l, h => by
    unfold spl
    rw [if_neg (h b (by simp)), spl_miss c l (fun x hx => h x (by simp [hx]))]
theorem spl_hit (c : UInt8) (t : List UInt8) : ∀ (p : List UInt8), (∀ b ∈ p, b ≠ c) → spl c (p ++ c :: t) = p :: spl c t
  | [], _ => by
    simp only [List.nil_append]
    conv => lhs; unfold spl
    rw [if_pos rfl]
  | b :: p, h => by
    simp only [List.cons_append]
    conv => lhs; unfold spl
    rw [if_neg (h b (by simp)), spl_hit c t p (fun x hx => h x (by simp [hx]))]
theorem bs_extract (s : List UInt8) (a b : Nat) : (bs s).extract a b = bs ((s.take b).drop a) := by
  apply ByteArray.ext
  simp [bs, ByteArray.data_extract, List.extract_eq_take_drop, List.drop_take]
theorem split_eq (c : UInt8) : ∀ (k : Nat) (s : List UInt8), Lib.countB (bs s) (bs [c]) = k → Lib.splitB (bs [c]) 0 k (bs s) = (spl c s).map bs := by
  have h1 : (bs [c]).size = 1 := rfl
  intro k
  induction k with
  | zero =>
    intro s hk
    rw [Lib.splitB_zero]
    have : Lib.indexB (bs s) (bs [c]) = -1 := by
      rcases Lib.indexB_cases (bs s) (bs [c]) with h | ⟨i, h, _⟩
      · exact h
      · have := Lib.countB_hit (bs s) (bs [c]) i (by omega) h
        omega
    have h2 : Lib.indexByte s c = -1 := by
      rw [← Lib.index_one]
      exact this
    rw [spl_miss c s (fun b hb e => by
      obtain ⟨j, hj, rfl⟩ := List.mem_iff_getElem.1 hb
      exact Lib.indexByte_none h2 j (by rw [List.getElem?_eq_getElem hj, e]))]
    rfl
  | succ k ih =>
    intro s hk
    rcases Lib.indexB_cases (bs s) (bs [c]) with h | ⟨i, h, hi⟩
    · rw [Lib.countB_miss _ _ h] at hk
      omega
    · have hc := Lib.countB_hit (bs s) (bs [c]) i (by omega) h
      have h2 : Lib.indexByte s c = (i : Int) := by
        rw [← Lib.index_one]
        exact h
      obtain ⟨hg, hb⟩ := Lib.indexByte_some h2
      have hil : i < s.length := (List.getElem?_eq_some_iff.1 hg).1
      have hs : s = s.take i ++ c :: s.drop (i + 1) := by
        have e3 : s[i] = c := (List.getElem?_eq_some_iff.1 hg).2
        rw [show c :: s.drop (i + 1) = s[i] :: s.drop (i + 1) by rw [e3], ← List.drop_eq_getElem_cons hil, List.take_append_drop]
      have hsz : (bs s).size = s.length := bs_size s
      rw [Lib.splitB_hit _ _ _ _ i h, bs_extract, bs_extract, h1, hsz]
      rw [bs_extract, h1, hsz] at hc
      have e1 : (s.take s.length).drop (i + 1) = s.drop (i + 1) := by rw [List.take_of_length_le (Nat.le_refl _)]
      have e2 : (s.take (i + 0)).drop 0 = s.take i := by simp
      rw [e1] at hc ⊢
      rw [e2, ih _ (by omega)]
      conv => rhs; rw [hs]
      rw [spl_hit c _ _ (fun b hb' e => by
        obtain ⟨j, hj, rfl⟩ := List.mem_iff_getElem.1 hb'
        rw [List.length_take] at hj
        rw [List.getElem_take] at e
        exact hb j (by omega) ((List.getElem?_eq_getElem (by omega)).trans (congrArg some e)))]
      rfl
end Go.Proofs.YtiknpcbmcipbcacDoor.G.Pure
end

section
namespace Go.Proofs.YtiknpcbmcipbcacDoor.G.Pure
open Go.RowKit Go.Proofs.YtiknpcbmcipbcacDoor.G Go.Proofs.YtiknpcbmcipbcacDoorW.PrintWords Go.Proofs.YtiknpcbmcipbcacDoorW.PrintLast Go.Proofs.YtiknpcbmcipbcacDoorW.PrintMore
set_option linter.unusedVariables false
set_option linter.unusedSimpArgs false
def wfShip (x : Sp) : Prop := (Lit.int .i8 x.f0).wf = true ∧ (Lit.int .i8 x.f1).wf = true ∧ (Lit.int .i8 x.f2).wf = true
def validB (l : List Sp) : Bool := decide (1 ≤ (l.length : Int)) && decide ((l.length : Int) ≤ 20) && !l.any shipBad
theorem implValid_eq (l : List Sp) : impl_ValidLine.f l = some (validB l) := rfl
theorem shipBad_wf {x : Sp} (h : wfShip x) : shipBad x = !(decide (0 ≤ x.f0) && decide (x.f0 ≤ 6) && (decide (0 ≤ x.f1) && decide (x.f1 ≤ 60)) && (decide (0 ≤ x.f2) && decide (x.f2 ≤ 60))) := by
  obtain ⟨h0, h1, h2⟩ := h
  have b0 := i8b h0
  have b1 := i8b h1
  have b2 := i8b h2
  unfold shipBad
  rw [w64 (n := x.f0) (by omega) (by omega), w64 (n := x.f1) (by omega) (by omega), w64 (n := x.f2) (by omega) (by omega)]
structure ValidL (l : List Sp) : Prop where
  pos : 1 ≤ l.length
  most : l.length ≤ 20
  ships : ∀ x ∈ l, 0 ≤ x.f0 ∧ x.f0 ≤ 6 ∧ 0 ≤ x.f1 ∧ x.f1 ≤ 60 ∧ 0 ≤ x.f2 ∧ x.f2 ≤ 60
theorem validB_iff {l : List Sp} (hw : ∀ x ∈ l, wfShip x) : validB l = true ↔ ValidL l := by
  constructor
  · intro h
    unfold validB at h
    simp only [Bool.and_eq_true, decide_eq_true_eq, Bool.not_eq_true', List.any_eq_false] at h
    obtain ⟨⟨h1, h2⟩, h3⟩ := h
    refine ⟨by omega, by omega, fun x hx => ?_⟩
    have h4 := h3 x hx
    rw [shipBad_wf (hw x hx)] at h4
    simp at h4
    omega
  · intro h
    unfold validB
    simp only [Bool.and_eq_true, decide_eq_true_eq, Bool.not_eq_true', List.any_eq_false]
    refine ⟨⟨by have := h.pos; omega, by have := h.most; omega⟩, fun x hx => ?_⟩
    rw [shipBad_wf (hw x hx)]
    have := h.ships x hx
    simp
    omega
theorem in_eq (n lo hi : Int) : spec_l00In.f n lo hi = some (decide (lo ≤ n) && decide (n ≤ hi)) := by
  unfold spec_l00In.f
  split
  · simp [*]
  · simp [*]
theorem specOk_eq (k : Nat) (l : List Sp) (hw : ∀ x ∈ l, wfShip x) (hl : l.length ≤ 2097152) (hk : l.length < k) : spec_l06Ok.f k l = some (validB l) := by
  unfold spec_l06Ok.f validB
  rw [in_eq]
  simp only [Option.bind_some]
  by_cases h0 : (decide (1 ≤ (l.length : Int)) && decide ((l.length : Int) ≤ 20)) = true
  · rw [if_pos h0, h0, Bool.true_and]
    obtain ⟨r, hr, h⟩ := loop_inv (fun k (s : Int) => spec_l06Ok.l0 k l s) l.length (fun i s => s = (i : Int) ∧ ∀ j (h : j < l.length), j < i → shipBad l[j] = false) (fun r => r = !l.any shipBad)
      (fun k i s hi ⟨h1, h2⟩ => by
        subst h1
        have hb := hw l[i] (List.getElem_mem hi)
        have hbad := shipBad_wf hb
        obtain ⟨b0, b1, b2⟩ := hb
        have b0 := i8b b0
        have b1 := i8b b1
        have b2 := i8b b2
        cases hq : shipBad l[i] with
        | true =>
          refine .inr ⟨false, ?_, ?_⟩
          · have : l.any shipBad = true := List.any_eq_true.2 ⟨l[i], List.getElem_mem hi, hq⟩
            rw [this]; rfl
          · simp only [spec_l06Ok.l0]
            rw [if_pos (by omega), if_pos (by omega), rd_impl_Ship hi, in_eq, in_eq, in_eq]
            rw [w64 (n := (l[i]).f0) (by omega) (by omega), w64 (n := (l[i]).f1) (by omega) (by omega), w64 (n := (l[i]).f2) (by omega) (by omega)]
            rw [hq] at hbad
            simp only [Option.bind_some]
            generalize (decide (0 ≤ (l[i]).f0) && decide ((l[i]).f0 ≤ 6)) = c0 at *
            generalize (decide (0 ≤ (l[i]).f1) && decide ((l[i]).f1 ≤ 60)) = c1 at *
            generalize (decide (0 ≤ (l[i]).f2) && decide ((l[i]).f2 ≤ 60)) = c2 at *
            cases c0 <;> cases c1 <;> cases c2 <;> first | (exfalso; revert hbad; decide) | rfl
        | false =>
          refine .inl ⟨((i + 1 : Nat) : Int), ⟨rfl, fun j hj hji => ?_⟩, ?_⟩
          · by_cases e : j = i
            · subst e; exact hq
            · exact h2 j hj (by omega)
          · simp only [spec_l06Ok.l0]
            rw [if_pos (by omega), if_pos (by omega), rd_impl_Ship hi, in_eq, in_eq, in_eq]
            rw [w64 (n := (l[i]).f0) (by omega) (by omega), w64 (n := (l[i]).f1) (by omega) (by omega), w64 (n := (l[i]).f2) (by omega) (by omega), w64 (n := (i : Int) + 1) (by omega) (by omega)]
            rw [hq] at hbad
            simp only [Option.bind_some]
            generalize (decide (0 ≤ (l[i]).f0) && decide ((l[i]).f0 ≤ 6)) = c0 at *
            generalize (decide (0 ≤ (l[i]).f1) && decide ((l[i]).f1 ≤ 60)) = c1 at *
            generalize (decide (0 ≤ (l[i]).f2) && decide ((l[i]).f2 ≤ 60)) = c2 at *
            cases c0 <;> cases c1 <;> cases c2 <;> first | (exfalso; revert hbad; decide) | rfl)
      (fun k s ⟨h1, h2⟩ => by
        subst h1
        refine ⟨true, ?_, ?_⟩
        · have : l.any shipBad = false := by
            rw [List.any_eq_false]
            intro x hx
            obtain ⟨j, hj, rfl⟩ := List.mem_iff_getElem.1 hx
            simp [h2 j hj hj]
          rw [this]; rfl
        · simp only [spec_l06Ok.l0]
          rw [if_neg (by omega)]) k 0 ⟨rfl, fun j _ h => absurd h (Nat.not_lt_zero _)⟩ hk
    subst hr
    exact h
  · rw [if_neg h0]
    simp only [Bool.not_eq_true] at h0
    rw [h0, Bool.false_and]
end Go.Proofs.YtiknpcbmcipbcacDoor.G.Pure
end

section
namespace Go.Proofs.YtiknpcbmcipbcacDoor.G.Pure
open Go.RowKit Go.Proofs.YtiknpcbmcipbcacDoor.G Go.Proofs.YtiknpcbmcipbcacDoorW.PrintWords Go.Proofs.YtiknpcbmcipbcacDoorW.PrintLast Go.Proofs.YtiknpcbmcipbcacDoorW.PrintMore
set_option linter.unusedVariables false
set_option linter.unusedSimpArgs false
theorem spl_sum (c : UInt8) : ∀ l : List UInt8, ((spl c l).map List.length).sum + (spl c l).length = l.length + 1
  | [] => by simp [spl]
  | b :: l => by
    have h := spl_sum c l
    unfold spl
    split
    · simp only [List.map_cons, List.sum_cons, List.length_nil, List.length_cons]
      omega
    · cases e : spl c l with
      | nil => exact absurd e (spl_ne c l)
      | cons y r =>
        rw [e] at h
        simp only [List.map_cons, List.sum_cons, List.length_cons] at h ⊢
        omega
def nums (most : Nat) : List (List UInt8) → List Int → Option (List Int)
  | [], acc => some acc
  | p :: r, acc => match numO p with
    | some n => if n ≤ most then nums most r (acc ++ [(n : Int)]) else none
    | none => none
def shipI (w : List UInt8) : Option Sp := match nums 60 (spl 47 w) [] with
  | some xs => if xs.length = 3 then some ⟨rd xs 0, rd xs 1, rd xs 2⟩ else none
  | none => none
def shipS (w : List UInt8) : Option Sp := match spl 47 w with
  | [x, y, z] => (match numO x, numO y, numO z with
    | some a, some b, some c => if a ≤ 6 ∧ b ≤ 60 ∧ c ≤ 60 then some ⟨(a : Int), (b : Int), (c : Int)⟩ else none
    | _, _, _ => none)
  | _ => none
def foldO (f : List UInt8 → Option Sp) : List (List UInt8) → List Sp → Option (List Sp)
  | [], acc => some acc
  | w :: r, acc => match f w with
    | some x => foldO f r (acc ++ [x])
    | none => none
def finO (o : Option (List Sp)) : List Sp × Int := match o with
  | some l => if validB l = true then (l, 0) else ([], 5)
  | none => ([], 5)
theorem nums_len (most : Nat) : ∀ (ps : List (List UInt8)) (acc xs : List Int), nums most ps acc = some xs → xs.length = acc.length + ps.length
  | [], acc, xs, h => by
    simp only [nums, Option.some.injEq] at h
    subst h
    simp
  | p :: r, acc, xs, h => by
    simp only [nums] at h
    cases hn : numO p with
    | none => rw [hn] at h; cases h
    | some n =>
      rw [hn] at h
      simp only at h
      split at h
      · have := nums_len most r _ xs h
        simp at this ⊢
        omega
      · cases h
theorem shipI_three (x y z : List UInt8) (w : List UInt8) (hw : spl 47 w = [x, y, z]) : shipI w = (match numO x, numO y, numO z with
    | some a, some b, some c => if a ≤ 60 ∧ b ≤ 60 ∧ c ≤ 60 then some ⟨(a : Int), (b : Int), (c : Int)⟩ else none
    | _, _, _ => none) := by
  unfold shipI
  rw [hw]
  simp only [nums]
  cases numO x with
  | none => rfl
  | some a =>
    simp only
    by_cases ha : a ≤ 60
    · rw [if_pos ha]
      cases numO y with
      | none => rfl
      | some b =>
        simp only
        by_cases hb : b ≤ 60
        · rw [if_pos hb]
          cases numO z with
          | none => rfl
          | some c =>
            simp only
            by_cases hc : c ≤ 60
            · rw [if_pos hc, if_pos ⟨ha, hb, hc⟩]
              simp [rd]
            · rw [if_neg hc, if_neg (fun h => hc h.2.2)]
        · rw [if_neg hb]
          cases numO z with
          | none => rfl
          | some c => simp only; rw [if_neg (fun h => hb h.2.1)]
    · rw [if_neg ha]
      cases numO y with
      | none => rfl
      | some b =>
        cases numO z with
        | none => rfl
        | some c => simp only; rw [if_neg (fun h => ha h.1)]
theorem shipS_three (x y z : List UInt8) (w : List UInt8) (hw : spl 47 w = [x, y, z]) : shipS w = (match numO x, numO y, numO z with
    | some a, some b, some c => if a ≤ 6 ∧ b ≤ 60 ∧ c ≤ 60 then some ⟨(a : Int), (b : Int), (c : Int)⟩ else none
    | _, _, _ => none) := by
  unfold shipS
  rw [hw]
theorem shipI_other (w : List UInt8) (hw : (spl 47 w).length ≠ 3) : shipI w = none := by
  unfold shipI
  cases h : nums 60 (spl 47 w) [] with
  | none => rfl
  | some xs =>
    have := nums_len 60 _ _ _ h
    simp only
    rw [if_neg (by simp at this; omega)]
theorem ship_rel (w : List UInt8) : (∃ x, shipS w = some x ∧ shipI w = some x ∧ (0 ≤ x.f0 ∧ x.f0 ≤ 6) ∧ (0 ≤ x.f1 ∧ x.f1 ≤ 60) ∧ (0 ≤ x.f2 ∧ x.f2 ≤ 60)) ∨ (shipS w = none ∧ (shipI w = none ∨ ∃ x, shipI w = some x ∧ (6 < x.f0 ∧ x.f0 ≤ 60) ∧ (0 ≤ x.f1 ∧ x.f1 ≤ 60) ∧ (0 ≤ x.f2 ∧ x.f2 ≤ 60))) := by
  by_cases h3 : (spl 47 w).length = 3
  · obtain ⟨x, y, z, hw⟩ : ∃ x y z, spl 47 w = [x, y, z] := by
      rcases e : spl 47 w with _ | ⟨x, _ | ⟨y, _ | ⟨z, _ | ⟨u, r⟩⟩⟩⟩ <;> rw [e] at h3 <;> simp at h3
      exact ⟨x, y, z, rfl⟩
    rw [shipI_three x y z w hw]
    unfold shipS
    rw [hw]
    simp only
    cases numO x with
    | none => exact .inr ⟨rfl, .inl rfl⟩
    | some a =>
      cases numO y with
      | none => exact .inr ⟨rfl, .inl rfl⟩
      | some b =>
        cases numO z with
        | none => exact .inr ⟨rfl, .inl rfl⟩
        | some c =>
          simp only
          by_cases h : b ≤ 60 ∧ c ≤ 60
          · by_cases ha : a ≤ 6
            · rw [if_pos ⟨ha, h⟩, if_pos ⟨by omega, h⟩]
              exact .inl ⟨_, rfl, rfl, by simp only; omega, by simp only; omega, by simp only; omega⟩
            · rw [if_neg (fun g => ha g.1)]
              by_cases ha2 : a ≤ 60
              · rw [if_pos ⟨ha2, h⟩]
                exact .inr ⟨rfl, .inr ⟨_, rfl, by simp only; omega, by simp only; omega, by simp only; omega⟩⟩
              · rw [if_neg (fun g => ha2 g.1)]
                exact .inr ⟨rfl, .inl rfl⟩
          · rw [if_neg (fun g => h g.2), if_neg (fun g => h g.2)]
            exact .inr ⟨rfl, .inl rfl⟩
  · rw [shipI_other w h3]
    refine .inr ⟨?_, .inl rfl⟩
    unfold shipS
    split
    · rename_i e
      rw [e] at h3
      exact absurd rfl h3
    · rfl
def shipW (x : Sp) : Prop := (0 ≤ x.f0 ∧ x.f0 ≤ 60) ∧ (0 ≤ x.f1 ∧ x.f1 ≤ 60) ∧ (0 ≤ x.f2 ∧ x.f2 ≤ 60)
theorem shipW_wf {x : Sp} (h : shipW x) : wfShip x := by
  obtain ⟨⟨h0, h1⟩, ⟨h2, h3⟩, ⟨h4, h5⟩⟩ := h
  refine ⟨?_, ?_, ?_⟩ <;> (simp [Lit.wf, IntKind.min, IntKind.max, IntKind.signed, IntKind.bits]; omega)
theorem foldI_keeps : ∀ (ws : List (List UInt8)) (acc l : List Sp), foldO shipI ws acc = some l → (∀ x ∈ acc, shipW x) → (∀ x ∈ l, shipW x) ∧ ∀ x ∈ acc, x ∈ l
  | [], acc, l, h, ha => by
    simp only [foldO, Option.some.injEq] at h
    subst h
    exact ⟨ha, fun x hx => hx⟩
  | w :: r, acc, l, h, ha => by
    simp only [foldO] at h
    rcases ship_rel w with ⟨x, _, h2, h3⟩ | ⟨_, h2 | ⟨x, h2, h3⟩⟩
    · rw [h2] at h
      have := foldI_keeps r _ l h (fun y hy => by
        rcases List.mem_append.1 hy with hy | hy
        · exact ha y hy
        · rw [List.mem_singleton.1 hy]
          exact ⟨by omega, h3.2.1, h3.2.2⟩)
      exact ⟨this.1, fun y hy => this.2 y (List.mem_append_left _ hy)⟩
    · rw [h2] at h
      cases h
    · rw [h2] at h
      have := foldI_keeps r _ l h (fun y hy => by
        rcases List.mem_append.1 hy with hy | hy
        · exact ha y hy
        · rw [List.mem_singleton.1 hy]
          exact ⟨by omega, h3.2.1, h3.2.2⟩)
      exact ⟨this.1, fun y hy => this.2 y (List.mem_append_left _ hy)⟩
theorem valid_no {l : List Sp} (hw : ∀ x ∈ l, shipW x) {x : Sp} (hx : x ∈ l) (h : 6 < x.f0) : validB l = false := by
  cases e : validB l with
  | false => rfl
  | true =>
    have := ((validB_iff (fun y hy => shipW_wf (hw y hy))).1 e).ships x hx
    omega
theorem fold_eq : ∀ (ws : List (List UInt8)) (acc : List Sp), (∀ x ∈ acc, shipW x) → finO (foldO shipI ws acc) = finO (foldO shipS ws acc)
  | [], acc, _ => rfl
  | w :: r, acc, ha => by
    simp only [foldO]
    rcases ship_rel w with ⟨x, h1, h2, h3⟩ | ⟨h1, h2 | ⟨x, h2, h3⟩⟩
    · rw [h1, h2]
      exact fold_eq r _ (fun y hy => by
        rcases List.mem_append.1 hy with hy | hy
        · exact ha y hy
        · rw [List.mem_singleton.1 hy]
          exact ⟨by omega, h3.2.1, h3.2.2⟩)
    · rw [h1, h2]
    · rw [h1, h2]
      simp only
      have ha' : ∀ y ∈ acc ++ [x], shipW y := fun y hy => by
        rcases List.mem_append.1 hy with hy | hy
        · exact ha y hy
        · rw [List.mem_singleton.1 hy]
          exact ⟨by omega, h3.2.1, h3.2.2⟩
      cases e : foldO shipI r (acc ++ [x]) with
      | none => rfl
      | some l =>
        obtain ⟨k1, k2⟩ := foldI_keeps r _ l e ha'
        have := valid_no k1 (k2 x (by simp)) h3.1.1
        simp only [finO]
        rw [this]
        rfl
theorem foldS_wf : ∀ (ws : List (List UInt8)) (acc l : List Sp), foldO shipS ws acc = some l → (∀ x ∈ acc, shipW x) → ∀ x ∈ l, shipW x
  | [], acc, l, h, ha => by
    simp only [foldO, Option.some.injEq] at h
    subst h
    exact ha
  | w :: r, acc, l, h, ha => by
    simp only [foldO] at h
    rcases ship_rel w with ⟨x, h1, h2, h3⟩ | ⟨h1, _⟩
    · rw [h1] at h
      exact foldS_wf r _ l h (fun y hy => by
        rcases List.mem_append.1 hy with hy | hy
        · exact ha y hy
        · rw [List.mem_singleton.1 hy]
          exact ⟨by omega, h3.2.1, h3.2.2⟩)
    · rw [h1] at h
      cases h
end Go.Proofs.YtiknpcbmcipbcacDoor.G.Pure
end

section
namespace Go.Proofs.YtiknpcbmcipbcacDoor.G.Pure
open Go.RowKit Go.Proofs.YtiknpcbmcipbcacDoor.G Go.Proofs.YtiknpcbmcipbcacDoorW.PrintWords Go.Proofs.YtiknpcbmcipbcacDoorW.PrintLast Go.Proofs.YtiknpcbmcipbcacDoorW.PrintMore
set_option linter.unusedVariables false
set_option linter.unusedSimpArgs false
theorem bt_eq {l : List UInt8} {i : Nat} (h : i < l.length) : bt (bs l) (i : Int) = (l[i].toNat : Int) := by
  simp only [bt, bs, Int.toNat_natCast]
  have h1 : i < (bs l).size := by rw [bs_size]; exact h
  first | (rw [dif_pos h1]; rfl) | (simp [h1]; rfl) | (simp [h1])
def numR (l : List UInt8) : Int × Bool := match numO l with | some n => ((n : Int), true) | none => (0, false)
theorem decFrom_take_ {l : List UInt8} {i : Nat} (h : i < l.length) (acc : Nat) : Lib.decFrom acc (l.take (i + 1)) = (Lib.decFrom acc (l.take i)).bind fun m => (Lib.digitVal l[i]).map fun d => m * 10 + d := by
  rw [List.take_succ_eq_append_getElem h, decFrom_snoc]
theorem decFrom_bad {l : List UInt8} {b : UInt8} (hb : b ∈ l) (h : Lib.digitVal b = none) : ∀ acc, Lib.decFrom acc l = none := by
  induction l with
  | nil => simp at hb
  | cons a l ih =>
    intro acc
    simp only [Lib.decFrom]
    rcases List.mem_cons.1 hb with rfl | hb
    · rw [h]
    · cases Lib.digitVal a with
      | none => rfl
      | some d => exact ih hb _
theorem specNumber (l : List UInt8) (K : Nat) (hK : 20 ≤ K) : spec_l01Number.f K (bs l) = some (numR l) := by
  have hempty : (bs l).toList = l := by rw [ByteArray.toList_eq]
  have hj : ∀ k, spec_l01Number.j0 (k + 1) (bs l) true = some (0, false) := fun k => by simp only [spec_l01Number.j0]; rfl
  obtain ⟨k, rfl⟩ : ∃ k, K = k + 1 := ⟨K - 1, by omega⟩
  unfold spec_l01Number.f numR numO
  rw [hempty, bs_size]
  by_cases h1 : l = []
  · rw [if_pos h1, if_pos h1, hj]
  · rw [if_neg h1, if_neg h1]
    by_cases h2 : 9 < l.length
    · rw [if_pos (by omega), if_pos h2, hj]
    · have hl : 0 < l.length := List.length_pos_iff.2 h1
      rw [if_neg (by omega), if_neg h2, if_pos (by omega)]
      have hb0 : bt (bs l) 0 = (l[0].toNat : Int) := bt_eq (i := 0) hl
      have hh : l.head? = some l[0] := by
        cases l with
        | nil => exact absurd rfl h1
        | cons a r => rfl
      have hjf : spec_l01Number.j0 (k + 1) (bs l) false = spec_l01Number.l0 k (bs l) 0 0 := by simp only [spec_l01Number.j0]; rfl
      have hloop : spec_l01Number.l0 k (bs l) 0 0 = some (match Lib.decFrom 0 l with | some n => ((n : Int), true) | none => (0, false)) := by
        obtain ⟨r, hr, h⟩ := loop_inv (fun k (s : Int × Int) => spec_l01Number.l0 k (bs l) s.1 s.2) l.length (fun i s => s.2 = (i : Int) ∧ ∃ m : Nat, s.1 = (m : Int) ∧ Lib.decFrom 0 (l.take i) = some m) (fun r => r = (match Lib.decFrom 0 l with | some n => ((n : Int), true) | none => (0, false)))
          (fun k i s hi ⟨g1, m, g2, g3⟩ => by
            obtain ⟨a, x⟩ := s
            simp only at g1 g2
            subst g1 g2
            have hm := Lib.decFrom_lt _ _ _ g3
            have h10 : 10 ^ (l.take i).length ≤ 10 ^ 9 := Nat.pow_le_pow_right (by omega) (by rw [List.length_take]; omega)
            simp only [spec_l01Number.l0]
            rw [bs_size, if_pos (by omega), if_pos (by omega), bt_eq hi]
            by_cases hd : 48 ≤ l[i].toNat ∧ l[i].toNat ≤ 57
            · have hdv : Lib.digitVal l[i] = some (l[i].toNat - 48) := by unfold Lib.digitVal; rw [if_pos hd]
              rw [if_neg (by omega), if_neg (by omega), w64 (n := 10 * (m : Int)) (by omega) (by omega), w64 (n := (i : Int) + 1) (by omega) (by omega)]
              refine .inl ⟨(((m * 10 + (l[i].toNat - 48) : Nat) : Int), ((i + 1 : Nat) : Int)), ⟨rfl, _, rfl, ?_⟩, ?_⟩
              · rw [decFrom_take_ hi, g3, hdv]
                rfl
              · rw [w64 (by omega) (by omega), show 10 * (m : Int) + ((l[i].toNat : Int) - 48) % 256 = ((m * 10 + (l[i].toNat - 48) : Nat) : Int) by omega]
                rfl
            · have hdv : Lib.digitVal l[i] = none := by unfold Lib.digitVal; rw [if_neg hd]
              refine .inr ⟨(0, false), ?_, ?_⟩
              · rw [decFrom_bad (List.getElem_mem hi) hdv]
              · by_cases h48 : (l[i].toNat : Int) < 48
                · rw [if_pos h48]
                · rw [if_neg h48, if_pos (by omega)])
          (fun k s ⟨g1, m, g2, g3⟩ => by
            obtain ⟨a, x⟩ := s
            simp only at g1 g2
            subst g1 g2
            refine ⟨_, rfl, ?_⟩
            rw [List.take_of_length_le (Nat.le_refl _)] at g3
            simp only [spec_l01Number.l0]
            rw [bs_size, if_neg (by omega), g3]) k (0, 0) ⟨rfl, 0, rfl, rfl⟩ (by omega)
        rw [h, hr]
      by_cases h3 : l[0].toNat = 48
      · have e0 : l[0] = 48 := UInt8.toNat_inj.1 h3
        rw [hb0, if_pos (by omega)]
        by_cases h4 : 1 < l.length
        · rw [decide_eq_true (by omega), hj, if_pos ⟨by rw [hh, e0], h4⟩]
        · rw [decide_eq_false (by omega), hjf, hloop, if_neg (fun h => h4 h.2)]
      · rw [hb0, if_neg (by omega), hjf, hloop, if_neg (fun h => h3 (by rw [hh] at h; have := Option.some.inj h.1; rw [this]; rfl))]
end Go.Proofs.YtiknpcbmcipbcacDoor.G.Pure
end

section
namespace Go.Proofs.YtiknpcbmcipbcacDoor.G.Pure
open Go.RowKit Go.Proofs.YtiknpcbmcipbcacDoor.G Go.Proofs.YtiknpcbmcipbcacDoorW.PrintWords Go.Proofs.YtiknpcbmcipbcacDoorW.PrintLast Go.Proofs.YtiknpcbmcipbcacDoorW.PrintMore
set_option linter.unusedVariables false
set_option linter.unusedSimpArgs false
theorem specSplit (c : UInt8) (l : List UInt8) (hl : l.length ≤ 1048576) (K : Nat) (hK : l.length < K) : spec_l01Split.f K (bs l) (c.toNat : Int) = some ((spl c l).map bs) := by
  unfold spec_l01Split.f
  obtain ⟨r, hr, h⟩ := loop_inv (fun k (s : List ByteArray × Int × Int) => spec_l01Split.l0 k (bs l) (c.toNat : Int) s.1 s.2.1 s.2.2) l.length
    (fun i s => s.2.2 = (i : Int) ∧ ∃ b : Nat, s.2.1 = (b : Int) ∧ b ≤ i ∧ s.1.length ≤ i ∧ (∀ x ∈ (l.take i).drop b, x ≠ c) ∧ (spl c l).map bs = s.1 ++ (spl c (l.drop b)).map bs)
    (fun r => r = (spl c l).map bs)
    (fun k i s hi ⟨g1, b, g2, g3, g4, g5, g6⟩ => by
      obtain ⟨acc, x, y⟩ := s
      simp only at g1 g2 g4 g6
      subst g1 g2
      simp only [spec_l01Split.l0]
      rw [bs_size, if_pos (by omega), if_pos (by omega), bt_eq hi]
      by_cases h : l[i] = c
      · rw [if_pos (by rw [h]), if_pos (by omega), if_pos (by omega), if_pos (by omega), if_pos (by omega), w64 (by omega) (by omega)]
        have he : (bs l).extract ((b : Int)).toNat ((i : Int)).toNat = bs ((l.take i).drop b) := by
          rw [Int.toNat_natCast, Int.toNat_natCast, bs_extract]
        refine .inl ⟨(acc ++ [bs ((l.take i).drop b)], ((i + 1 : Nat) : Int), ((i + 1 : Nat) : Int)), ⟨rfl, i + 1, rfl, Nat.le_refl _, by simp; omega, ?_, ?_⟩, ?_⟩
        · intro x hx
          rw [List.drop_eq_nil_of_le (by rw [List.length_take]; omega)] at hx
          simp at hx
        · have e1 : l.drop b = (l.take i).drop b ++ c :: l.drop (i + 1) := by
            have e2 : l = l.take i ++ c :: l.drop (i + 1) := by
              rw [← h, ← List.drop_eq_getElem_cons hi, List.take_append_drop]
            conv => lhs; rw [e2]
            rw [List.drop_append_of_le_length (by rw [List.length_take]; omega)]
          rw [g6, e1, spl_hit c _ _ g5]
          simp
        · rw [he]
          rfl
      · have hne : ¬ (l[i].toNat : Int) = (c.toNat : Int) := fun e => h (UInt8.toNat_inj.1 (by omega))
        rw [if_neg hne, w64 (by omega) (by omega)]
        refine .inl ⟨(acc, (b : Int), ((i + 1 : Nat) : Int)), ⟨rfl, b, rfl, by omega, Nat.le_succ_of_le g4, ?_, g6⟩, rfl⟩
        intro x hx
        rw [List.take_succ_eq_append_getElem hi, List.drop_append_of_le_length (by rw [List.length_take]; omega)] at hx
        rcases List.mem_append.1 hx with hx | hx
        · exact g5 x hx
        · rw [List.mem_singleton.1 hx]
          exact h)
    (fun k s ⟨g1, b, g2, g3, g4, g5, g6⟩ => by
      obtain ⟨acc, x, y⟩ := s
      simp only at g1 g2 g4 g6
      subst g1 g2
      refine ⟨_, rfl, ?_⟩
      simp only [spec_l01Split.l0]
      have he : (bs l).extract ((b : Int)).toNat (bs l).size = bs (l.drop b) := by
        rw [Int.toNat_natCast, bs_extract, bs_size, List.take_of_length_le (Nat.le_refl _)]
      rw [List.take_of_length_le (Nat.le_refl _)] at g5
      rw [he, bs_size, if_neg (by omega), if_pos (by omega), if_pos (by omega), if_pos (by omega), g6, spl_miss c _ g5]
      rfl) K ([], 0, 0) ⟨rfl, 0, rfl, by omega, by simp, by simp, by simp⟩ hK
  rw [h, hr]
theorem implSplit (c : UInt8) (l : List UInt8) (hl : l.length ≤ 1048576) : strings_Split.f (bs l) (bs [c]) = some ((spl c l).map bs) := by
  unfold strings_Split.f
  rw [bs_size, bs_size, if_pos (by omega), if_pos (by simp), split_eq c _ l rfl]
theorem spl_len (c : UInt8) : ∀ l : List UInt8, (spl c l).length ≤ l.length + 1 ∧ ∀ x ∈ spl c l, x.length ≤ l.length
  | [] => by simp [spl]
  | b :: l => by
    obtain ⟨h1, h2⟩ := spl_len c l
    unfold spl
    split
    · refine ⟨by simpa using h1, fun x hx => ?_⟩
      rcases List.mem_cons.1 hx with rfl | hx
      · simp
      · have := h2 x hx
        simp
        omega
    · cases e : spl c l with
      | nil => exact absurd e (spl_ne c l)
      | cons y r =>
        rw [e] at h1 h2
        simp only
        refine ⟨by simp at h1 ⊢; omega, fun x hx => ?_⟩
        rcases List.mem_cons.1 hx with rfl | hx
        · have := h2 y (by simp)
          simp
          omega
        · have := h2 x (by simp [hx])
          simp
          omega
end Go.Proofs.YtiknpcbmcipbcacDoor.G.Pure
end

section
namespace Go.Proofs.YtiknpcbmcipbcacDoor.G.Pure
open Go.RowKit Go.Proofs.YtiknpcbmcipbcacDoor.G Go.Proofs.YtiknpcbmcipbcacDoorW.PrintWords Go.Proofs.YtiknpcbmcipbcacDoorW.PrintLast Go.Proofs.YtiknpcbmcipbcacDoorW.PrintMore
set_option linter.unusedVariables false
set_option linter.unusedSimpArgs false
theorem i8s {n : Nat} (h : n ≤ 60) : IntKind.i8.wrap (n : Int) = (n : Int) := by
  unfold IntKind.wrap
  simp [IntKind.signed, IntKind.bits]
  omega
theorem lineNums (ws : List ByteArray) (wl j : Int) (x4 : List Sp) (hx4 : x4.length ≤ 1048577) (ps : List (List UInt8)) (hps : ps.length ≤ 1048577) (hp : ∀ x ∈ ps, x.length ≤ 1048576) : ∀ (d i k : Nat) (acc : List Int), i + d = ps.length → d < k → acc.length = i →
    impl_ReadLine.l1 k x4 acc ws wl j (ps.map bs) (ps.length : Int) (i : Int) = (match nums 60 (ps.drop i) acc with
      | some xs => if xs.length = 3 then impl_ReadLine.l0 (k - d - 1) (x4 ++ [⟨rd xs 0, rd xs 1, rd xs 2⟩]) ws wl (wrap64 (j + 1)) else some ([], 5)
      | none => some ([], 5)) := by
  intro d
  induction d with
  | zero =>
    intro i k acc hi hk ha
    obtain ⟨k, rfl⟩ : ∃ m, k = m + 1 := ⟨k - 1, by omega⟩
    rw [List.drop_eq_nil_of_le (by omega)]
    simp only [nums, impl_ReadLine.l1]
    rw [if_neg (by omega)]
    by_cases h : acc.length = 3
    · rw [if_pos (by omega), if_pos (by omega), if_pos (by omega), if_pos (by omega), if_pos (by omega), if_pos h]
      rfl
    · rw [if_neg (by omega), if_neg h]
  | succ d ih =>
    intro i k acc hi hk ha
    obtain ⟨k, rfl⟩ : ∃ m, k = m + 1 := ⟨k - 1, by omega⟩
    have hil : i < ps.length := by omega
    have hx := hp _ (List.getElem_mem hil)
    rw [List.drop_eq_getElem_cons hil]
    simp only [nums, impl_ReadLine.l1]
    rw [if_pos (by omega), if_pos (by omega), if_pos (by rw [List.length_map]; omega), rdB hil, implNumber _ (by omega) 60 (by omega)]
    simp only [Option.bind_some]
    cases hn : numO ps[i] with
    | none =>
      simp only
      rw [if_neg (by intro h_; cases h_)]
    | some n =>
      by_cases h60 : n ≤ 60
      · have hv : (if (n : Int) ≤ 60 then ((n : Int), true) else ((0 : Int), false)) = ((n : Int), true) := if_pos (by omega)
        simp only [hv]
        rw [if_pos (by first | trivial | rfl), if_pos (by omega), i8s h60, w64 (by omega) (by omega), if_pos h60]
        have := ih (i + 1) k (acc ++ [(n : Int)]) (by omega) (by omega) (by simp; omega)
        rw [show ((i : Int) + 1) = ((i + 1 : Nat) : Int) by omega, this, show k + 1 - (d + 1) - 1 = k - d - 1 by omega]
      · have hv : (if (n : Int) ≤ 60 then ((n : Int), true) else ((0 : Int), false)) = ((0 : Int), false) := if_neg (by omega)
        simp only [hv]
        rw [if_neg (by intro h_; cases h_), if_neg h60]
def need (ws : List (List UInt8)) : Nat := (ws.map fun w => (spl 47 w).length + 2).sum
theorem need_cons (w : List UInt8) (r : List (List UInt8)) : need (w :: r) = ((spl 47 w).length + 2) + need r := by simp [need]
theorem lineShips (ws : List (List UInt8)) (hws : ws.length ≤ 1048577) (hw : ∀ x ∈ ws, x.length ≤ 1048576) : ∀ (e j k : Nat) (acc : List Sp), j + e = ws.length → need (ws.drop j) < k → acc.length = j →
    impl_ReadLine.l0 k acc (ws.map bs) (ws.length : Int) (j : Int) = some (finO (foldO shipI (ws.drop j) acc)) := by
  intro e
  induction e with
  | zero =>
    intro j k acc hj hk ha
    obtain ⟨k, rfl⟩ : ∃ m, k = m + 1 := ⟨k - 1, by omega⟩
    rw [List.drop_eq_nil_of_le (by omega)]
    simp only [foldO, finO, impl_ReadLine.l0]
    rw [if_neg (by omega), implValid_eq]
    simp only [Option.bind_some]
    cases validB acc <;> rfl
  | succ e ih =>
    intro j k acc hj hk ha
    obtain ⟨k, rfl⟩ : ∃ m, k = m + 1 := ⟨k - 1, by omega⟩
    have hjl : j < ws.length := by omega
    have hx := hw _ (List.getElem_mem hjl)
    obtain ⟨s1, s2⟩ := spl_len 47 ws[j]
    rw [List.drop_eq_getElem_cons hjl] at hk ⊢
    rw [need_cons] at hk
    simp only [impl_ReadLine.l0]
    rw [if_pos (by omega), if_pos (by omega), if_pos (by rw [List.length_map]; omega), rdB hjl, show (⟨#[47]⟩ : ByteArray) = bs [47] from rfl, implSplit 47 _ hx]
    simp only [Option.bind_some]
    rw [List.length_map]
    have hin := lineNums (ws.map bs) (ws.length : Int) (j : Int) acc (by omega) (spl 47 ws[j]) (by omega) (fun x hx' => by have := s2 x hx'; omega) (spl 47 ws[j]).length 0 k [] (by omega) (by omega) rfl
    rw [show ((0 : Nat) : Int) = 0 from rfl] at hin
    rw [hin, List.drop_zero]
    simp only [foldO]
    unfold shipI
    cases nums 60 (spl 47 ws[j]) [] with
    | none => rfl
    | some xs =>
      simp only
      by_cases h3 : xs.length = 3
      · rw [if_pos h3, if_pos h3, w64 (by omega) (by omega)]
        have := ih (j + 1) (k - (spl 47 ws[j]).length - 1) (acc ++ [⟨rd xs 0, rd xs 1, rd xs 2⟩]) (by omega) (by omega) (by simp; omega)
        rw [show ((j : Int) + 1) = ((j + 1 : Nat) : Int) by omega, this]
        rfl
      · rw [if_neg h3, if_neg h3]
        rfl
theorem need_le : ∀ ws : List (List UInt8), need ws ≤ (ws.map List.length).sum + 3 * ws.length
  | [] => by simp [need]
  | w :: r => by
    have h := need_le r
    have := (spl_len 47 w).1
    have e : need (w :: r) = ((spl 47 w).length + 2) + need r := by simp [need]
    rw [e]
    simp only [List.map_cons, List.sum_cons, List.length_cons]
    omega
theorem lineShipsS (ws : List (List UInt8)) (hws : ws.length ≤ 1048577) (hw : ∀ x ∈ ws, x.length ≤ 1048576) (K : Nat) (hK : ws.length + 2200000 < K) : spec_ReadLine.l0 K (ws.map bs) [] 0 = some (finO (foldO shipS ws [])) := by
  obtain ⟨r, hr, h⟩ := loop_inv2 (fun k (s : List Sp × Int) => spec_ReadLine.l0 k (ws.map bs) s.1 s.2) ws.length 2200000 (fun i s => s.2 = (i : Int) ∧ s.1.length = i ∧ (∀ x ∈ s.1, shipW x) ∧ foldO shipS ws [] = foldO shipS (ws.drop i) s.1) (fun r => r = finO (foldO shipS ws []))
    (fun k i s hi hk ⟨h1, h2, h4, h3⟩ => by
      obtain ⟨acc, x⟩ := s
      simp only at h1 h2 h3 h4
      subst h1
      have hx := hw _ (List.getElem_mem hi)
      rw [List.drop_eq_getElem_cons hi] at h3
      simp only [foldO] at h3
      simp only [spec_ReadLine.l0]
      rw [if_pos (by rw [List.length_map]; omega), if_pos (by omega), rdB hi, show (47 : Int) = (((47 : UInt8)).toNat : Int) from rfl, specSplit 47 _ hx k (by omega)]
      simp only [Option.bind_some]
      by_cases hl3 : (spl 47 ws[i]).length = 3
      · obtain ⟨p, q, z, hpq⟩ : ∃ p q z, spl 47 ws[i] = [p, q, z] := by
          rcases e : spl 47 ws[i] with _ | ⟨p, _ | ⟨q, _ | ⟨z, _ | ⟨u, r⟩⟩⟩⟩ <;> rw [e] at hl3 <;> simp at hl3
          exact ⟨p, q, z, rfl⟩
        have r0 : rdOf ByteArray.empty ([p, q, z].map bs) 0 = bs p := rfl
        have r1 : rdOf ByteArray.empty ([p, q, z].map bs) 1 = bs q := rfl
        have r2 : rdOf ByteArray.empty ([p, q, z].map bs) 2 = bs z := rfl
        rw [shipS_three p q z _ hpq] at h3
        rw [hpq]
        rw [if_pos (by simp), if_pos (by simp), r0, specNumber p k (by omega)]
        simp only [Option.bind_some]
        rw [if_pos (by simp), r1, specNumber q k (by omega)]
        simp only [Option.bind_some]
        rw [if_pos (by simp), r2, specNumber z k (by omega)]
        simp only [Option.bind_some]
        unfold numR
        have bad : ∀ {o : Option (List Sp)}, foldO shipS ws [] = o → o = none → (([] : List Sp), (5 : Int)) = finO (foldO shipS ws []) := fun h1 h2 => by rw [h1, h2]; rfl
        cases ha : numO p with
        | none =>
          rw [ha] at h3
          refine .inr ⟨([], 5), bad h3 rfl, ?_⟩
          simp only
          rw [if_neg (by intro h_; cases h_)]
        | some a =>
          rw [ha] at h3
          cases hb : numO q with
          | none =>
            rw [hb] at h3
            refine .inr ⟨([], 5), bad h3 rfl, ?_⟩
            simp only
            rw [if_pos (by first | trivial | rfl), if_neg (by intro h_; cases h_)]
          | some b =>
            rw [hb] at h3
            cases hc : numO z with
            | none =>
              rw [hc] at h3
              refine .inr ⟨([], 5), bad h3 rfl, ?_⟩
              simp only
              rw [if_pos (by first | trivial | rfl), if_pos (by first | trivial | rfl), if_neg (by intro h_; cases h_)]
            | some c =>
              rw [hc] at h3
              simp only at h3 ⊢
              rw [if_pos (by first | trivial | rfl), if_pos (by first | trivial | rfl), if_pos (by first | trivial | rfl)]
              by_cases hh : a ≤ 6 ∧ b ≤ 60 ∧ c ≤ 60
              · rw [if_pos hh] at h3
                obtain ⟨g1, g2, g3⟩ := hh
                rw [if_neg (by omega), if_neg (by omega), if_neg (by omega), if_pos (by omega), i8s (by omega), i8s g2, i8s g3, w64 (by omega) (by omega)]
                refine .inl ⟨(acc ++ [⟨(a : Int), (b : Int), (c : Int)⟩], ((i + 1 : Nat) : Int)), ⟨rfl, by simp; omega, fun y hy => ?_, h3⟩, rfl⟩
                rcases List.mem_append.1 hy with hy | hy
                · exact h4 y hy
                · rw [List.mem_singleton.1 hy]
                  refine ⟨?_, ?_, ?_⟩ <;> (simp only; omega)
              · rw [if_neg hh] at h3
                refine .inr ⟨([], 5), bad h3 rfl, ?_⟩
                by_cases g1 : (a : Int) > 6
                · rw [if_pos g1]
                · rw [if_neg g1]
                  by_cases g2 : (b : Int) > 60
                  · rw [if_pos g2]
                  · rw [if_neg g2, if_pos (by omega)]
      · have hno : shipS ws[i] = none := by
          unfold shipS
          split
          · rename_i e
            rw [e] at hl3
            exact absurd rfl hl3
          · rfl
        rw [hno] at h3
        refine .inr ⟨([], 5), ?_, ?_⟩
        · rw [h3]
          rfl
        · rw [if_neg (by rw [List.length_map]; omega)])
    (fun k s hk ⟨h1, h2, h4, h3⟩ => by
      obtain ⟨acc, x⟩ := s
      simp only at h1 h2 h3 h4
      subst h1
      rw [List.drop_eq_nil_of_le (Nat.le_refl _)] at h3
      refine ⟨finO (foldO shipS ws []), rfl, ?_⟩
      simp only [spec_ReadLine.l0]
      rw [if_neg (by rw [List.length_map]; omega), specOk_eq k acc (fun y hy => shipW_wf (h4 y hy)) (by omega) (by omega)]
      simp only [Option.bind_some]
      rw [h3]
      simp only [foldO, finO]
      cases validB acc <;> rfl) K ([], 0) ⟨rfl, rfl, by simp, rfl⟩ (by omega)
  rw [h, hr]
end Go.Proofs.YtiknpcbmcipbcacDoor.G.Pure
end

section
namespace Go.Proofs.YtiknpcbmcipbcacDoor.G.Pure
open Go.RowKit Go.Proofs.YtiknpcbmcipbcacDoor.G Go.Proofs.YtiknpcbmcipbcacDoorW.PrintWords Go.Proofs.YtiknpcbmcipbcacDoorW.PrintLast Go.Proofs.YtiknpcbmcipbcacDoorW.PrintMore
set_option linter.unusedVariables false
set_option linter.unusedSimpArgs false
def markS (i : Nat) : Sp := ⟨IntKind.i8.wrap (1 + 3 * (i : Int)), IntKind.i8.wrap (1 + 3 * (i : Int) + 1), IntKind.i8.wrap (1 + 3 * (i : Int) + 2)⟩
theorem rd_set_Ship {l : List Sp} {i : Nat} (h : i < l.length) (v : Sp) : rd_T34 (l.set i v) (i : Int) = v := by
  rw [rd_impl_Ship (by simpa using h)]
  simp
theorem markShipS_held (k : Nat) (a : List Sp) (hl : a.length ≤ 1048576) (hk : a.length < k) : ∃ l m, laws_markShipS.f k a 1 = some (m, l) ∧ (∀ k', a.length < k' → laws_heldShipS.f k' l 1 = some m) ∧ 0 ≤ m := by
  obtain ⟨r, ⟨h1, h2, h3⟩, h⟩ := loop_inv (fun k (s : List Sp × Int × Int) => laws_markShipS.l0 k s.1 s.2.1 s.2.2) a.length
    (fun i s => s.2.2 = (i : Int) ∧ s.2.1 = 1 + 3 * (i : Int) ∧ s.1.length = a.length ∧ ∀ j (h : j < s.1.length), j < i → s.1[j] = markS j)
    (fun r => r.1 = 1 + 3 * (a.length : Int) ∧ r.2.length = a.length ∧ ∀ j (h : j < r.2.length), r.2[j] = markS j)
    (fun k i s hi ⟨h1, h2, h3, h4⟩ => by
      obtain ⟨acc, m, x⟩ := s
      simp only at h1 h2 h3 h4
      subst h1 h2
      refine .inl ⟨(acc.set i (markS i), 1 + 3 * ((i + 1 : Nat) : Int), ((i + 1 : Nat) : Int)), ⟨rfl, rfl, by simpa using h3, fun j hj hji => ?_⟩, ?_⟩
      · simp only [List.getElem_set]
        split
        · rename_i e; subst e; rfl
        · simp only [List.length_set] at hj
          exact h4 j hj (by omega)
      · have hia : i < acc.length := by omega
        simp only [laws_markShipS.l0]
        rw [if_pos (by omega), if_pos (by omega)]
        simp only [Option.bind_some, Int.toNat_natCast]
        rw [w64 (n := 1 + 3 * (i : Int) + 1) (by omega) (by omega), w64 (n := 1 + 3 * (i : Int) + 1 + 1) (by omega) (by omega), w64 (n := 1 + 3 * (i : Int) + 1 + 1 + 1) (by omega) (by omega), w64 (n := (i : Int) + 1) (by omega) (by omega)]
        simp only [rd_set_Ship, hia, List.set_set, List.length_set]
        rw [show 1 + 3 * (i : Int) + 1 + 1 + 1 = 1 + 3 * ((i + 1 : Nat) : Int) by omega, show 1 + 3 * (i : Int) + 1 + 1 = 1 + 3 * (i : Int) + 2 by omega]
        rfl)
    (fun k s ⟨h1, h2, h3, h4⟩ => by
      obtain ⟨acc, m, x⟩ := s
      simp only at h1 h2 h3 h4
      subst h1 h2
      refine ⟨(1 + 3 * (a.length : Int), acc), ⟨rfl, h3, fun j hj => h4 j hj (by rw [← h3]; exact hj)⟩, ?_⟩
      simp only [laws_markShipS.l0]
      rw [if_neg (by omega)]) k (a, 1, 0) ⟨rfl, rfl, rfl, fun j _ h => absurd h (Nat.not_lt_zero _)⟩ hk
  obtain ⟨m, l⟩ := r
  simp only at h1 h2 h3
  refine ⟨l, m, h, fun k' hk' => ?_, by omega⟩
  obtain ⟨r, hr, h'⟩ := loop_inv (fun k (s : Int × Int) => laws_heldShipS.l0 k l s.1 s.2) l.length (fun i s => s.2 = (i : Int) ∧ s.1 = 1 + 3 * (i : Int)) (fun r => r = m)
    (fun k i s hi ⟨g1, g2⟩ => by
      obtain ⟨m', x⟩ := s
      simp only at g1 g2
      subst g1 g2
      refine .inl ⟨(1 + 3 * ((i + 1 : Nat) : Int), ((i + 1 : Nat) : Int)), ⟨rfl, rfl⟩, ?_⟩
      simp only [laws_heldShipS.l0]
      rw [w64 (n := 1 + 3 * (i : Int) + 1) (by omega) (by omega), w64 (n := 1 + 3 * (i : Int) + 1 + 1) (by omega) (by omega), w64 (n := 1 + 3 * (i : Int) + 1 + 1 + 1) (by omega) (by omega), w64 (n := (i : Int) + 1) (by omega) (by omega)]
      rw [if_pos (by omega), if_pos (by omega), rd_impl_Ship hi, h3 i hi, if_pos (show (markS i).f0 = IntKind.i8.wrap (1 + 3 * (i : Int)) from rfl), if_pos (show (markS i).f1 = IntKind.i8.wrap (1 + 3 * (i : Int) + 1) from rfl), if_pos (show (markS i).f2 = IntKind.i8.wrap (1 + 3 * (i : Int) + 1 + 1) by show IntKind.i8.wrap (1 + 3 * (i : Int) + 2) = _; rw [show 1 + 3 * (i : Int) + 1 + 1 = 1 + 3 * (i : Int) + 2 by omega])]
      rw [show 1 + 3 * (i : Int) + 1 + 1 + 1 = 1 + 3 * ((i + 1 : Nat) : Int) by omega]
      rfl)
    (fun k s ⟨g1, g2⟩ => by
      obtain ⟨m', x⟩ := s
      simp only at g1 g2
      subst g1 g2
      refine ⟨m, rfl, ?_⟩
      simp only [laws_heldShipS.l0]
      rw [if_neg (by omega), h1, h2]) k' (1, 0) ⟨rfl, rfl⟩ (by omega)
  subst hr
  exact h'
end Go.Proofs.YtiknpcbmcipbcacDoor.G.Pure
end

section
namespace Go.Proofs.YtiknpcbmcipbcacDoor.G.Pure
open Go.RowKit Go.Proofs.YtiknpcbmcipbcacDoor.G Go.Proofs.YtiknpcbmcipbcacDoorW.PrintWords Go.Proofs.YtiknpcbmcipbcacDoorW.PrintLast Go.Proofs.YtiknpcbmcipbcacDoorW.PrintMore
set_option linter.unusedVariables false
set_option linter.unusedSimpArgs false
theorem eqShip_self (a : S34) : laws_eqShip.f a.f0 a.f1 a.f2 a.f0 a.f1 a.f2 = some true := by
  simp [laws_eqShip.f]
theorem eqShipS_self (k : Nat) (a : List (S34)) (hl : a.length ≤ 1048576) (hk : a.length < k) : laws_eqShipS.f k a a = some true := by
  unfold laws_eqShipS.f
  rw [if_pos rfl]
  obtain ⟨r, hr, h⟩ := loop_inv (fun k (s : Int) => laws_eqShipS.l0 k a a s) a.length (fun i s => s = (i : Int)) (fun r => r = true)
    (fun k i s hi h1 => by
      subst h1
      refine .inl ⟨((i + 1 : Nat) : Int), rfl, ?_⟩
      simp only [laws_eqShipS.l0]
      rw [if_pos (by omega), if_pos (by omega), if_pos (by omega), eqShip_self]
      simp only [Option.bind_some, if_true]
      rw [w64 (by omega) (by omega)]
      rfl)
    (fun k s h1 => by
      subst h1
      refine ⟨true, rfl, ?_⟩
      simp only [laws_eqShipS.l0]
      rw [if_neg (by omega)]) k 0 rfl hk
  subst hr
  exact h
end Go.Proofs.YtiknpcbmcipbcacDoor.G.Pure
end

section
namespace Go.Proofs.YtiknpcbmcipbcacDoor.G.Pure
open Go.RowKit Go.Proofs.YtiknpcbmcipbcacDoor.G Go.Proofs.YtiknpcbmcipbcacDoorW.PrintWords Go.Proofs.YtiknpcbmcipbcacDoorW.PrintLast Go.Proofs.YtiknpcbmcipbcacDoorW.PrintMore
set_option linter.unusedVariables false
set_option linter.unusedSimpArgs false
theorem FnExactReadLine (a0 : ByteArray) (h00 : a0.size ≤ 140737488351232) : ∃ k, laws_FnExactReadLine.f k a0 = some true := by
  refine ⟨9000000, ?_⟩
  unfold laws_FnExactReadLine.f
  by_cases h : (a0.size : Int) > 1048576
  · rw [if_pos h]
  · rw [if_neg h]
    obtain ⟨l, rfl⟩ : ∃ l, a0 = bs l := ⟨a0.data.toList, by simp [bs]⟩
    rw [bs_size] at h
    have hl : l.length ≤ 1048576 := by omega
    obtain ⟨h1, h2⟩ := spl_len 32 l
    have hsum := spl_sum 32 l
    have hneed := need_le (spl 32 l)
    have hs : ∀ k, 8000000 ≤ k → spec_ReadLine.f k (bs l) = some (finO (foldO shipS (spl 32 l) [])) := fun k hk => by
      unfold spec_ReadLine.f
      rw [show (32 : Int) = (((32 : UInt8)).toNat : Int) from rfl, specSplit 32 l hl k (by omega)]
      simp only [Option.bind_some]
      exact lineShipsS _ (by omega) (fun x hx => by have := h2 x hx; omega) k (by omega)
    have hi : ∀ k, 8000000 ≤ k → impl_ReadLine.f k (bs l) = some (finO (foldO shipS (spl 32 l) [])) := fun k hk => by
      unfold impl_ReadLine.f
      rw [show (⟨#[32]⟩ : ByteArray) = bs [32] from rfl, implSplit 32 l hl]
      simp only [Option.bind_some]
      rw [List.length_map, ← fold_eq _ [] (by simp)]
      have := lineShips (spl 32 l) (by omega) (fun x hx => by have := h2 x hx; omega) (spl 32 l).length 0 k [] (by omega) (by rw [List.drop_zero]; omega) rfl
      rw [List.drop_zero] at this
      exact this
    have hlen : (finO (foldO shipS (spl 32 l) [])).1.length ≤ 20 := by
      cases e : foldO shipS (spl 32 l) [] with
      | none => simp [finO]
      | some r =>
        simp only [finO]
        by_cases hv : validB r = true
        · rw [if_pos hv]
          exact ((validB_iff (fun y hy => shipW_wf (foldS_wf _ _ _ e (by simp) y hy))).1 hv).most
        · rw [if_neg hv]
          simp
    generalize finO (foldO shipS (spl 32 l) []) = R at *
    obtain ⟨w, c⟩ := R
    simp only at hlen
    rw [hs _ (by omega)]
    simp only [Option.bind_some]
    rw [hi _ (by omega)]
    simp only [Option.bind_some]
    rw [eqShipS_self _ w (by omega) (by omega)]
    simp only [Option.bind_some]
    rw [if_pos (by first | trivial | rfl)]
    obtain ⟨v, m, e1, e2, e3⟩ := markShipS_held 8999999 w (by omega) (by omega)
    have hb : (c != c) = false := by simp
    rw [hb]
    simp only [laws_FnExactReadLine.j0]
    rw [if_neg (by first | (intro h_; cases h_; done) | simp), e1]
    simp only [Option.bind_some]
    rw [e2 _ (by omega)]
    simp only [Option.bind_some]
    rw [if_neg (by omega), if_pos (by first | trivial | rfl), hi _ (by omega)]
    simp only [Option.bind_some]
    rw [eqShipS_self _ w (by omega) (by omega)]
    simp only [Option.bind_some]
    rw [if_pos (by first | trivial | rfl), hb]
    simp only [laws_FnExactReadLine.j1]
    rw [if_neg (by first | (intro h_; cases h_; done) | simp), e2 _ (by omega)]
    simp only [Option.bind_some]
    rw [if_neg (by omega), if_pos (by first | trivial | rfl)]
end Go.Proofs.YtiknpcbmcipbcacDoor.G.Pure
end
