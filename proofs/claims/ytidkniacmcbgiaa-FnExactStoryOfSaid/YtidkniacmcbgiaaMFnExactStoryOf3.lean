/- The law's functions, their contracts, and the plain lemmas: texts of this claim, laid together. -/
import Derived.Test.YtidkniacmcbgiaaMFnExactStoryOf0
import Derived.Test.YtidkniacmcbgiaaMFnExactStoryOf1
import Derived.Test.YtidkniacmcbgiaaMFnExactStoryOf2
section
namespace Go.Proofs.Ytidkniacmcbgiaa.G
open Go.RowKit Go.Proofs.YtidkniacmcbgiaaW.PrintWords Go.Proofs.YtidkniacmcbgiaaW.PrintLast Go.Proofs.YtidkniacmcbgiaaW.PrintMore
attribute [local go_sem] max2_int min2_int max_two min_two max_three min_three max_four min_four
set_option linter.unusedVariables false
set_option linter.unusedSimpArgs false
mutual
def spec_l07Costs.l0 : Nat → List (S73) → List (S73) → List (List Int) → Int → Option ((List (List Int)))
 | 0,_,_,_,_ => none
 | k + 1,x0,x1,x5,x6 => if x6 ≥ 0 then (spec_l07Costs.l1 k x0 x1 x5 x6 (x1.length : Int)) else (some x5)
def spec_l07Costs.l1 : Nat → List (S73) → List (S73) → List (List Int) → Int → Int → Option ((List (List Int)))
 | 0,_,_,_,_,_ => none
 | k + 1,x0,x1,x5,x6,x7 => if x7 ≥ 0 then (if x6 < (x0.length : Int) then (if 0 ≤ (wrap64 (x6 + 1)) then (if (wrap64 (x6 + 1)) < (x5.length : Int) then (if 0 ≤ x7 then (if x7 < ((rd_L6 x5 (wrap64 (x6 + 1))).length : Int) then (spec_l07Costs.j2 k x0 x1 x5 x6 x7 (wrap64 (1 + (rd (rd_L6 x5 (wrap64 (x6 + 1))) x7)))) else (none)) else (none)) else (none)) else (none)) else (spec_l07Costs.j2 k x0 x1 x5 x6 x7 (-1))) else (spec_l07Costs.l0 k x0 x1 x5 (wrap64 (x6 - 1)))
def spec_l07Costs.j2 : Nat → List (S73) → List (S73) → List (List Int) → Int → Int → Int → Option ((List (List Int)))
 | 0,_,_,_,_,_,_ => none
 | k + 1,x0,x1,x5,x6,x7,x8 => if x7 < (x1.length : Int) then (if x8 < 0 then (spec_l07Costs.j3 k x0 x1 x5 x6 x7 x8 true) else (if 0 ≤ x6 then (if x6 < (x5.length : Int) then (if 0 ≤ (wrap64 (x7 + 1)) then (if (wrap64 (x7 + 1)) < ((rd_L6 x5 x6).length : Int) then (spec_l07Costs.j3 k x0 x1 x5 x6 x7 x8 (decide ((wrap64 (2 + (rd (rd_L6 x5 x6) (wrap64 (x7 + 1))))) < x8))) else (none)) else (none)) else (none)) else (none))) else (spec_l07Costs.j3 k x0 x1 x5 x6 x7 x8 false)
def spec_l07Costs.j3 : Nat → List (S73) → List (S73) → List (List Int) → Int → Int → Int → Bool → Option ((List (List Int)))
 | 0,_,_,_,_,_,_,_ => none
 | k + 1,x0,x1,x5,x6,x7,x8,x58 => if x58 = true then (if 0 ≤ x6 then (if x6 < (x5.length : Int) then (if 0 ≤ (wrap64 (x7 + 1)) then (if (wrap64 (x7 + 1)) < ((rd_L6 x5 x6).length : Int) then (spec_l07Costs.j4 k x0 x1 x5 x6 x7 (wrap64 (2 + (rd (rd_L6 x5 x6) (wrap64 (x7 + 1)))))) else (none)) else (none)) else (none)) else (none)) else (spec_l07Costs.j4 k x0 x1 x5 x6 x7 x8)
def spec_l07Costs.j4 : Nat → List (S73) → List (S73) → List (List Int) → Int → Int → Int → Option ((List (List Int)))
 | 0,_,_,_,_,_,_ => none
 | k + 1,x0,x1,x5,x6,x7,x8 => if x6 < (x0.length : Int) then (spec_l07Costs.j5 k x0 x1 x5 x6 x7 x8 (decide (x7 < (x1.length : Int)))) else (spec_l07Costs.j5 k x0 x1 x5 x6 x7 x8 false)
def spec_l07Costs.j5 : Nat → List (S73) → List (S73) → List (List Int) → Int → Int → Int → Bool → Option ((List (List Int)))
 | 0,_,_,_,_,_,_,_ => none
 | k + 1,x0,x1,x5,x6,x7,x8,x77 => if x77 = true then (if 0 ≤ x6 then (if x6 < (x0.length : Int) then (if 0 ≤ x7 then (if x7 < (x1.length : Int) then ((spec_l07Cost.f ((rd_T73 x0 x6).f0) ((rd_T73 x0 x6).f1) ((rd_T73 x0 x6).f2) ((rd_T73 x1 x7).f0) ((rd_T73 x1 x7).f1) ((rd_T73 x1 x7).f2)).bind fun t112 => (if t112 ≥ 0 then (if 0 ≤ (wrap64 (x6 + 1)) then (if (wrap64 (x6 + 1)) < (x5.length : Int) then (if 0 ≤ (wrap64 (x7 + 1)) then (if (wrap64 (x7 + 1)) < ((rd_L6 x5 (wrap64 (x6 + 1))).length : Int) then (if (wrap64 (t112 + (rd (rd_L6 x5 (wrap64 (x6 + 1))) (wrap64 (x7 + 1))))) < x8 then (if x6 < (x5.length : Int) then ((spec_l00Max.f (wrap64 (t112 + (rd (rd_L6 x5 (wrap64 (x6 + 1))) (wrap64 (x7 + 1))))) 0).bind fun t118 => (if x7 < ((rd_L6 x5 x6).length : Int) then (spec_l07Costs.l1 k x0 x1 (x5.set (x6 : Int).toNat ((rd_L6 x5 x6).set (x7 : Int).toNat t118)) x6 (wrap64 (x7 - 1))) else (none))) else (none)) else (if x6 < (x5.length : Int) then ((spec_l00Max.f x8 0).bind fun t123 => (if x7 < ((rd_L6 x5 x6).length : Int) then (spec_l07Costs.l1 k x0 x1 (x5.set (x6 : Int).toNat ((rd_L6 x5 x6).set (x7 : Int).toNat t123)) x6 (wrap64 (x7 - 1))) else (none))) else (none))) else (none)) else (none)) else (none)) else (none)) else (if x6 < (x5.length : Int) then ((spec_l00Max.f x8 0).bind fun t128 => (if x7 < ((rd_L6 x5 x6).length : Int) then (spec_l07Costs.l1 k x0 x1 (x5.set (x6 : Int).toNat ((rd_L6 x5 x6).set (x7 : Int).toNat t128)) x6 (wrap64 (x7 - 1))) else (none))) else (none)))) else (none)) else (none)) else (none)) else (none)) else (if 0 ≤ x6 then (if x6 < (x5.length : Int) then ((spec_l00Max.f x8 0).bind fun t133 => (if 0 ≤ x7 then (if x7 < ((rd_L6 x5 x6).length : Int) then (spec_l07Costs.l1 k x0 x1 (x5.set (x6 : Int).toNat ((rd_L6 x5 x6).set (x7 : Int).toNat t133)) x6 (wrap64 (x7 - 1))) else (none)) else (none))) else (none)) else (none))
end
def spec_l07Costs.f (k : Nat) (l0 : List (S73)) (l1 : List (S73)) : Option ((List (List Int))) := (spec_l07Begin.f k l0 l1).bind fun t101 => (spec_l07Costs.l0 k l0 l1 t101 (l0.length : Int))
def spec_l07Costs.T14 : Bool × List (List Nat × List Nat) := (true,[([],[]),([],[]),([0,1],[0,1]),([2],[2]),([],[]),([],[]),([4,5],[4,5]),([6],[6]),([3,7],[3,7]),([8,8,0,1,2,3,4,5,6,7,8],[8])])
def spec_l07Costs.B14 : List Nat := [0,0,3,7,0,0,48,112,255,511]
theorem spec_l07Costs.tab14 : rtab .any (opsOf Try.f85 14) = spec_l07Costs.T14 := by kernel_rfl
theorem spec_l07Costs.bits14 : waitsOk spec_l07Costs.T14.2 spec_l07Costs.B14 = true := by kernel_rfl
def spec_l07Costs.T17 : Bool × List (List Nat × List Nat) := (true,[([],[]),([],[]),([0,1],[0,1]),([2],[2]),([],[]),([],[]),([5],[5]),([3,4,0,1,2,3,4,5,6],[3,4]),([7,6,6,0,1,2,3,4,5,6],[6,7])])
def spec_l07Costs.B17 : List Nat := [0,0,3,7,0,0,32,127,255]
theorem spec_l07Costs.tab17 : rtab .any (opsOf Try.f85 17) = spec_l07Costs.T17 := by kernel_rfl
theorem spec_l07Costs.bits17 : waitsOk spec_l07Costs.T17.2 spec_l07Costs.B17 = true := by kernel_rfl
set_option maxHeartbeats 8000000 in
set_option maxRecDepth 100000 in
theorem spec_l07Costs.calls (k : Nat) (A0 : Option Addr) (c0 : Nat) (l0 : List (S73)) (A1 : Option Addr) (c1 : Nat) (l1 : List (S73)) (r : List (List Int)) (w : World) (hr0 : Kd.C k73 w A0 l0.length l0) (hc0 : l0.length ≤ c0) (hr1 : Kd.C k73 w A1 l1.length l1) (hc1 : l1.length ≤ c1) (h : spec_l07Costs.f k l0 l1 = some r) :
  Calls Try.prog 85 #[.slice A0 l0.length c0,.slice A1 l1.length c1] w fun e w' => ∃ v0_ : Value,e = .returned (v0_) ∧ Kd.S (Kd.slice 2 (Kd.int .i64)) 37 w' w.heap.size (fun _ => True) v0_ r ∧ Below w.heap.size w w' := by
 have hu73 := Try.underlying73;have HR0 := Aside0.mk hr0;have HC0 := Aside0.mk hc0;clear hr0 hc0;have HR1 := Aside0.mk hr1;have HC1 := Aside0.mk hc1;clear hr1 hc1;have HB := Aside0.mk (Below.refl w.heap.size w);have H : ((spec_l07Begin.f k l0 l1).bind fun t101 => (spec_l07Costs.l0 k l0 l1 t101 (l0.length : Int))) = some r := h;clear h;replace H := Option.bind_eq_some_iff.mp H;obtain ⟨t101,A30,H⟩ := H;replace H : (spec_l07Costs.l0 k l0 l1 t101 (l0.length : Int)) = some r := H;have A3 := Aside0.mk A30;clear A30;have H' := Aside0.mk H;clear H
 go_enter Try.func85,Try.ntmps85
 go_wp2_with (first | ((with_reducible refine gate_callee (f := 106) rfl ?_);refine goesL_ (some 12) rfl rfl Try.func106 (by kernel_rfl) rfl #[.slice A0 l0.length c0,.slice A1 l1.length c1] rfl (by (try simp only [List.map_toArray,List.map_cons,List.map_nil]);first | done | rfl | (simp only [List.length_drop,List.length_take];rfl)) ?_;(with_reducible refine (spec_l07Begin.calls k _ _ l0 _ _ l1 t101 _ ?side1 ?side2 ?side3 ?side4 A3.out).mono ?_);(case side1 => repeat (first | exact HR0.out | (with_reducible refine Kd.C_alloc ?_ _) | (with_reducible refine Kd.C_drewN ?_ _) | (with_reducible refine Kd.C_drew ?_)));(case side2 => exact HC0.out);(case side3 => repeat (first | exact HR1.out | (with_reducible refine Kd.C_alloc ?_ _) | (with_reducible refine Kd.C_drewN ?_ _) | (with_reducible refine Kd.C_drew ?_)));(case side4 => exact HC1.out);rintro e w4 ⟨v102,rfl,ho0,hb⟩;refine ⟨_,rfl,?_⟩;have n0_ := Aside0.mk (Kd.S_lower ho0 (below_size (by repeat (first | (with_reducible first | exact HB.out | apply below_alloc | apply pw_below_drewN | apply below_drew1) | exact HB.out))));have n1_ := Aside0.mk (below_step (by repeat (first | (with_reducible first | exact HB.out | apply below_alloc | apply pw_below_drewN | apply below_drew1) | exact HB.out)) hb);clear HB;have HO103 := n0_;have HB := n1_;clear n0_ n1_;(try clear hb);(try clear hb2);(try clear hk);(try clear hi);(try clear ho0)))
 go_loopg [6] k (fun kq v6 w' => ∃ (x5_1 : List (List Int)) (x6_1 : Int),v6 = .int .i64 x6_1 ∧ Aside0 (spec_l07Costs.l0 kq l0 l1 x5_1 x6_1 = some r) ∧ Aside0 (kq ≤ k) ∧ Aside0 (Kd.S (Kd.slice 2 (Kd.int .i64)) 37 w' w.heap.size (fun _ => True) v102 x5_1) ∧ Aside0 (Below w.heap.size w w'))
 case atStart => exact ⟨(t101),((l0.length : Int)),(by first | rfl | (simp only [IntKind.wrap_i64,wrap64];done) | (simp;done) | (simp [*];done)),H',⟨Nat.le_refl _⟩,⟨by (with_reducible repeat (first | apply Kd.S_alloc | apply Kd.S_drewN | apply Kd.S_drew));exact HO103.out⟩,⟨by repeat (first | (with_reducible first | exact HB.out | apply below_alloc | apply pw_below_drewN | apply below_drew1) | exact HB.out)⟩⟩
 case round =>
  clear H';(try clear c1);(try clear p2);obtain ⟨x5_1,x6_1,rfl,HA,HK1,HO_5,HB⟩ := hrel
  cases gk with
  | zero => exact absurd HA.out (by simp [spec_l07Costs.l0])
  | succ k1 =>
   have H := HA.out;clear HA;simp only [spec_l07Costs.l0] at H
   by_cases c5 : x6_1 ≥ 0
   ·rw [if_pos c5] at H;have c5b0 : decide (0 ≤ x6_1) = true := decide_eq_true c5;clear c5;have H' := Aside0.mk H;clear H
    go_wp2
    go_loopg [7] k1 (fun kq v7 w' => ∃ (x5_2 : List (List Int)) (x7_2 : Int),v7 = .int .i64 x7_2 ∧ Aside0 (spec_l07Costs.l1 kq l0 l1 x5_2 x6_1 x7_2 = some r) ∧ Aside0 (kq ≤ k1) ∧ Aside0 (Kd.S (Kd.slice 2 (Kd.int .i64)) 37 w' w.heap.size (fun _ => True) v102 x5_2) ∧ Aside0 (Below w.heap.size w w'))
    case atStart => exact ⟨(x5_1),((l1.length : Int)),(by first | rfl | (simp only [IntKind.wrap_i64,wrap64];done) | (simp;done) | (simp [*];done)),H',⟨Nat.le_refl _⟩,⟨by (with_reducible repeat (first | apply Kd.S_alloc | apply Kd.S_drewN | apply Kd.S_drew));exact HO_5.out⟩,⟨by repeat (first | (with_reducible first | exact HB.out | apply below_alloc | apply pw_below_drewN | apply below_drew1) | exact HB.out)⟩⟩
    case round =>
     clear H';(try clear c1);(try clear p2);(try clear c5);(try clear c5b0);(try clear p2);obtain ⟨x5_2,x7_2,rfl,HA,HK2,HO_5,HB⟩ := hrel
     cases gk with
     | zero => exact absurd HA.out (by simp [spec_l07Costs.l1])
     | succ k2 =>
      have H := HA.out;clear HA;simp only [spec_l07Costs.l1] at H
      by_cases c6 : x7_2 ≥ 0
      ·rw [if_pos c6] at H;have c6b0 : decide (0 ≤ x7_2) = true := decide_eq_true c6;clear c6;have HC7 := Aside0.mk H;clear H
       go_upto_if 28 with (fail)
       go_cut [8] (fun v8 wc => ∃ (kq : Nat) (x8_6 : Int),v8 = .int .i64 x8_6 ∧ Aside0 (spec_l07Costs.j2 kq l0 l1 x5_2 x6_1 x7_2 x8_6 = some r) ∧ Aside0 (kq ≤ k2) ∧ Aside0 (Kd.S (Kd.slice 2 (Kd.int .i64)) 37 wc w.heap.size (fun _ => True) v102 x5_2) ∧ Aside0 (Below w.heap.size w wc))
       case first =>
        have H := HC7.out;clear HC7
        by_cases c8 : x6_1 < (l0.length : Int)
        ·rw [if_pos c8] at H;have c8b0 : decide (x6_1 < (l0.length : Int)) = true := decide_eq_true c8;clear c8;(first | rw [c8b0] | (simp only [i64_w,i32_w];rw [c8b0]) | skip);obtain ⟨ji9,hji9⟩ : ∃ j_ : Int,(wrap64 (x6_1 + 1)) = j_ := ⟨_,rfl⟩
         replace H : (if 0 ≤ (ji9) then (if (ji9) < (x5_2.length : Int) then (if 0 ≤ x7_2 then (if x7_2 < ((rd_L6 x5_2 (ji9)).length : Int) then (spec_l07Costs.j2 k2 l0 l1 x5_2 x6_1 x7_2 (wrap64 (1 + (rd (rd_L6 x5_2 (ji9)) x7_2)))) else (none)) else (none)) else (none)) else (none)) = some r := by first | (rw [hji9] at H;exact H) | (simp only [hji9] at H ⊢;exact H)
         have hji9w : (IntKind.i64.wrap (x6_1 + 1)) = ji9 := (i64_w _).trans hji9
         by_cases c10 : 0 ≤ (ji9)
         ·rw [if_pos c10] at H;have c10b0 : decide (0 ≤ (ji9)) = true := decide_eq_true c10;clear c10
          by_cases c11 : (ji9) < (x5_2.length : Int)
          ·rw [if_pos c11] at H;have c11b0 : decide ((ji9) < (x5_2.length : Int)) = true := decide_eq_true c11;clear c11
           by_cases c12 : 0 ≤ x7_2
           ·rw [if_pos c12] at H;have c12b0 : decide (0 ≤ x7_2) = true := decide_eq_true c12;clear c12
            by_cases c13 : x7_2 < ((rd_L6 x5_2 (ji9)).length : Int)
            ·rw [if_pos c13] at H;have c13b0 : decide (x7_2 < ((rd_L6 x5_2 (ji9)).length : Int)) = true := decide_eq_true c13;clear c13;have H' := Aside0.mk H;clear H;obtain ⟨Ao14,co14,eo14⟩ := Kd.S_slice HO_5.out;subst eo14;have p104 : 0 ≤ ((ji9) : Int) := of_decide_eq_true (by first | (with_reducible assumption) | assumption);have q104 : (ji9) < (x5_2.length : Int) := of_decide_eq_true (by first | (with_reducible assumption) | assumption);obtain ⟨ad104,A104_0,c104_0,e104,hx104_0,hl104_0,hi104_0⟩ := at_L6 (Kd.S_reads' HO_5.out).2.2 (ji9) p104 q104;cases e104;obtain ⟨ce104,hce104,hMe104,hcc104⟩ := Kd.S_get HO_5.out [] (ji9) p104 (by first | exact q104 | exact of_decide_eq_true (by first | (with_reducible assumption) | assumption) | (have e_ := (Kd.S_reads' HO_5.out).1;omega));obtain ⟨ve104_0,rfl,ge104_0⟩ := hMe104;have hv104_0 := hcc104 0 _ rfl;rw [Nat.add_zero,show ((Kd.slice 2 (Kd.int .i64))).sz = 1 from rfl,Nat.mul_one] at hv104_0;replace hv104_0 := Option.some.inj (hv104_0.symm.trans hx104_0);rw [hv104_0] at ge104_0;have HL104_0 := Aside0.mk (show Kd.R (Kd.int .i64) 2 _ _ _ _ (rd_L6 x5_2 (ji9)) from ge104_0);clear hv104_0 ge104_0;have HX104_0 := Aside0.mk hx104_0;clear hcc104 hce104;have HR104_0 := Aside0.mk hi104_0;have HC104_0 := Aside0.mk hl104_0;clear hi104_0 hl104_0;replace p104 := eq_true p104;replace q104 := eq_true q104;have p105 : 0 ≤ (x7_2 : Int) := of_decide_eq_true (by first | (with_reducible assumption) | assumption);have q105 : x7_2 < ((rd_L6 x5_2 (ji9)).length : Int) := of_decide_eq_true (by first | (with_reducible assumption) | assumption);obtain ⟨ad105,e105,hx105_0⟩ := Kd.at_int (by repeat (first | (with_reducible exact HR104_0.out) | (with_reducible refine Kd.C_alloc ?_ _) | (with_reducible refine Kd.C_drewN ?_ _) | (with_reducible refine Kd.C_drew ?_) | exact HR104_0.out)) x7_2 p105 q105;cases e105;replace p105 := eq_true p105;replace q105 := eq_true q105
             go_wp2
             go_meet
             case rel => exact ⟨_,(wrap64 (1 + (rd (rd_L6 x5_2 (ji9)) x7_2))),(by first | rfl | (simp only [IntKind.wrap_i64,wrap64];done) | (simp;done) | (simp only [← hji9] <;> (first | rfl | simp)) | (simp [*];done)),H',⟨by have := HK1.out;have := HK2.out;first | omega | exact Nat.le_refl _⟩,⟨by (with_reducible repeat (first | apply Kd.S_alloc | apply Kd.S_drewN | apply Kd.S_drew));exact HO_5.out⟩,⟨by repeat (first | (with_reducible first | exact HB.out | apply below_alloc | apply pw_below_drewN | apply below_drew1) | exact HB.out)⟩⟩
            ·rw [if_neg c13] at H;exact absurd H (by simp)
           ·rw [if_neg c12] at H;exact absurd H (by simp)
          ·rw [if_neg c11] at H;exact absurd H (by simp)
         ·rw [if_neg c10] at H;exact absurd H (by simp)
        ·rw [if_neg c8] at H;have c8b0 : decide (x6_1 < (l0.length : Int)) = false := decide_eq_false c8;clear c8;(first | rw [c8b0] | (simp only [i64_w,i32_w];rw [c8b0]) | skip);have H' := Aside0.mk H;clear H
         go_wp2
         go_meet
         case rel => exact ⟨_,((-1)),(by first | rfl | (simp only [IntKind.wrap_i64,wrap64];done) | (simp;done) | (simp [*];done)),H',⟨by have := HK1.out;have := HK2.out;first | omega | exact Nat.le_refl _⟩,⟨by (with_reducible repeat (first | apply Kd.S_alloc | apply Kd.S_drewN | apply Kd.S_drew));exact HO_5.out⟩,⟨by repeat (first | (with_reducible first | exact HB.out | apply below_alloc | apply pw_below_drewN | apply below_drew1) | exact HB.out)⟩⟩
       case rest =>
        clear HC7;(try clear c1);(try clear p1);(try clear q1);(try clear hx1);(try clear p2);(try clear c5);(try clear c5b0);(try clear c6);(try clear c6b0);(try clear p6);(try clear c8);(try clear c8b0);(try clear c10);(try clear c10b0);(try clear p10);(try clear q10);(try clear hx10);(try clear c11);(try clear c11b0);(try clear c12);(try clear c12b0);(try clear c13);(try clear c13b0);(try clear hx104_0);(try clear hx105_0);(try clear p104);(try clear p105);(try clear p2);(try clear q104);(try clear q105);obtain ⟨kq,x8_6,rfl,HA,HJ6,HO_5,HB⟩ := hcut
        cases kq with
        | zero => exact absurd HA.out (by simp [spec_l07Costs.j2])
        | succ kj6 =>
         have H := HA.out;clear HA;simp only [spec_l07Costs.j2] at H;have HC15 := Aside0.mk H;clear H
         go_upto_region 11 with (fail)
         go_cut [58] (fun v58 wc => ∃ (kq : Nat) (x58_14 : Bool),v58 = .bool x58_14 ∧ Aside0 (spec_l07Costs.j3 kq l0 l1 x5_2 x6_1 x7_2 x8_6 x58_14 = some r) ∧ Aside0 (kq ≤ kj6) ∧ Aside0 (Kd.S (Kd.slice 2 (Kd.int .i64)) 37 wc w.heap.size (fun _ => True) v102 x5_2) ∧ Aside0 (Below w.heap.size w wc))
         case first =>
          have H := HC15.out;clear HC15
          by_cases c16 : x7_2 < (l1.length : Int)
          ·rw [if_pos c16] at H;have c16b0 : decide (x7_2 < (l1.length : Int)) = true := decide_eq_true c16;clear c16;(first | rw [c16b0] | (simp only [i64_w,i32_w];rw [c16b0]) | skip)
           by_cases c17 : x8_6 < 0
           ·rw [if_pos c17] at H;have c17b0 : decide (x8_6 < 0) = true := decide_eq_true c17;clear c17;have H' := Aside0.mk H;clear H
            go_wp2
            go_meet
            case rel => exact ⟨_,(true),(by first | rfl | (simp only [IntKind.wrap_i64,wrap64];done) | (simp;done) | (simp [*];done)),H',⟨by have := HK1.out;have := HK2.out;have := HJ6.out;first | omega | exact Nat.le_refl _⟩,⟨by (with_reducible repeat (first | apply Kd.S_alloc | apply Kd.S_drewN | apply Kd.S_drew));exact HO_5.out⟩,⟨by repeat (first | (with_reducible first | exact HB.out | apply below_alloc | apply pw_below_drewN | apply below_drew1) | exact HB.out)⟩⟩
           ·rw [if_neg c17] at H;have c17b0 : decide (x8_6 < 0) = false := decide_eq_false c17;clear c17
            by_cases c18 : 0 ≤ x6_1
            ·rw [if_pos c18] at H;have c18b0 : decide (0 ≤ x6_1) = true := decide_eq_true c18;clear c18
             by_cases c19 : x6_1 < (x5_2.length : Int)
             ·rw [if_pos c19] at H;have c19b0 : decide (x6_1 < (x5_2.length : Int)) = true := decide_eq_true c19;clear c19;obtain ⟨ji20,hji20⟩ : ∃ j_ : Int,(wrap64 (x7_2 + 1)) = j_ := ⟨_,rfl⟩
              replace H : (if 0 ≤ (ji20) then (if (ji20) < ((rd_L6 x5_2 x6_1).length : Int) then (spec_l07Costs.j3 kj6 l0 l1 x5_2 x6_1 x7_2 x8_6 (decide ((wrap64 (2 + (rd (rd_L6 x5_2 x6_1) (ji20)))) < x8_6))) else (none)) else (none)) = some r := by first | (rw [hji20] at H;exact H) | (simp only [hji20] at H ⊢;exact H)
              have hji20w : (IntKind.i64.wrap (x7_2 + 1)) = ji20 := (i64_w _).trans hji20
              by_cases c21 : 0 ≤ (ji20)
              ·rw [if_pos c21] at H;have c21b0 : decide (0 ≤ (ji20)) = true := decide_eq_true c21;clear c21
               by_cases c22 : (ji20) < ((rd_L6 x5_2 x6_1).length : Int)
               ·rw [if_pos c22] at H;have c22b0 : decide ((ji20) < ((rd_L6 x5_2 x6_1).length : Int)) = true := decide_eq_true c22;clear c22;have H' := Aside0.mk H;clear H;obtain ⟨Ao23,co23,eo23⟩ := Kd.S_slice HO_5.out;subst eo23;have p106 : 0 ≤ (x6_1 : Int) := of_decide_eq_true (by first | (with_reducible assumption) | assumption);have q106 : x6_1 < (x5_2.length : Int) := of_decide_eq_true (by first | (with_reducible assumption) | assumption);obtain ⟨ad106,A106_0,c106_0,e106,hx106_0,hl106_0,hi106_0⟩ := at_L6 (Kd.S_reads' HO_5.out).2.2 x6_1 p106 q106;cases e106;obtain ⟨ce106,hce106,hMe106,hcc106⟩ := Kd.S_get HO_5.out [] x6_1 p106 (by first | exact q106 | exact of_decide_eq_true (by first | (with_reducible assumption) | assumption) | (have e_ := (Kd.S_reads' HO_5.out).1;omega));obtain ⟨ve106_0,rfl,ge106_0⟩ := hMe106;have hv106_0 := hcc106 0 _ rfl;rw [Nat.add_zero,show ((Kd.slice 2 (Kd.int .i64))).sz = 1 from rfl,Nat.mul_one] at hv106_0;replace hv106_0 := Option.some.inj (hv106_0.symm.trans hx106_0);rw [hv106_0] at ge106_0;have HL106_0 := Aside0.mk (show Kd.R (Kd.int .i64) 2 _ _ _ _ (rd_L6 x5_2 x6_1) from ge106_0);clear hv106_0 ge106_0;have HX106_0 := Aside0.mk hx106_0;clear hcc106 hce106;have HR106_0 := Aside0.mk hi106_0;have HC106_0 := Aside0.mk hl106_0;clear hi106_0 hl106_0;replace p106 := eq_true p106;replace q106 := eq_true q106;have p107 : 0 ≤ ((ji20) : Int) := of_decide_eq_true (by first | (with_reducible assumption) | assumption);have q107 : (ji20) < ((rd_L6 x5_2 x6_1).length : Int) := of_decide_eq_true (by first | (with_reducible assumption) | assumption);obtain ⟨ad107,e107,hx107_0⟩ := Kd.at_int (by repeat (first | (with_reducible exact HR106_0.out) | (with_reducible refine Kd.C_alloc ?_ _) | (with_reducible refine Kd.C_drewN ?_ _) | (with_reducible refine Kd.C_drew ?_) | exact HR106_0.out)) (ji20) p107 q107;cases e107;replace p107 := eq_true p107;replace q107 := eq_true q107
                go_wp2
                go_meet
                case rel => exact ⟨_,(decide ((wrap64 (2 + (rd (rd_L6 x5_2 x6_1) (ji20)))) < x8_6)),(by first | rfl | (simp only [IntKind.wrap_i64,wrap64];done) | (simp;done) | (simp only [← hji20] <;> (first | rfl | simp)) | (simp [*];done)),H',⟨by have := HK1.out;have := HK2.out;have := HJ6.out;first | omega | exact Nat.le_refl _⟩,⟨by (with_reducible repeat (first | apply Kd.S_alloc | apply Kd.S_drewN | apply Kd.S_drew));exact HO_5.out⟩,⟨by repeat (first | (with_reducible first | exact HB.out | apply below_alloc | apply pw_below_drewN | apply below_drew1) | exact HB.out)⟩⟩
               ·rw [if_neg c22] at H;exact absurd H (by simp)
              ·rw [if_neg c21] at H;exact absurd H (by simp)
             ·rw [if_neg c19] at H;exact absurd H (by simp)
            ·rw [if_neg c18] at H;exact absurd H (by simp)
          ·rw [if_neg c16] at H;have c16b0 : decide (x7_2 < (l1.length : Int)) = false := decide_eq_false c16;clear c16;(first | rw [c16b0] | (simp only [i64_w,i32_w];rw [c16b0]) | skip);have H' := Aside0.mk H;clear H
           go_wp2
           go_meet
           case rel => exact ⟨_,(false),(by first | rfl | (simp only [IntKind.wrap_i64,wrap64];done) | (simp;done) | (simp [*];done)),H',⟨by have := HK1.out;have := HK2.out;have := HJ6.out;first | omega | exact Nat.le_refl _⟩,⟨by (with_reducible repeat (first | apply Kd.S_alloc | apply Kd.S_drewN | apply Kd.S_drew));exact HO_5.out⟩,⟨by repeat (first | (with_reducible first | exact HB.out | apply below_alloc | apply pw_below_drewN | apply below_drew1) | exact HB.out)⟩⟩
         case rest =>
          clear HC15;(try clear c1);(try clear p1);(try clear q1);(try clear hx1);(try clear c2);(try clear p2);(try clear c5);(try clear c5b0);(try clear c6);(try clear c6b0);(try clear p6);(try clear c8);(try clear c8b0);(try clear c10);(try clear c10b0);(try clear p10);(try clear q10);(try clear hx10);(try clear c11);(try clear c11b0);(try clear c12);(try clear c12b0);(try clear c13);(try clear c13b0);(try clear c16);(try clear c16b0);(try clear c17);(try clear c17b0);(try clear c18);(try clear c18b0);(try clear c19);(try clear c19b0);(try clear c21);(try clear c21b0);(try clear c22);(try clear c22b0);(try clear hx104_0);(try clear hx105_0);(try clear hx106_0);(try clear hx107_0);(try clear p1);(try clear p10);(try clear p104);(try clear p105);(try clear p106);(try clear p107);(try clear p2);(try clear p6);(try clear q1);(try clear q10);(try clear q104);(try clear q105);(try clear q106);(try clear q107);obtain ⟨kq,x58_14,rfl,HA,HJ14,HO_5,HB⟩ := hcut
          cases kq with
          | zero => exact absurd HA.out (by simp [spec_l07Costs.j3])
          | succ kj14 =>
           have H := HA.out;clear HA;simp only [spec_l07Costs.j3] at H;have HC24 := Aside0.mk H;clear H
           go_upto_if 58 with (fail)
           go_cut [8] (fun v8 wc => ∃ (kq : Nat) (x8_23 : Int),v8 = .int .i64 x8_23 ∧ Aside0 (spec_l07Costs.j4 kq l0 l1 x5_2 x6_1 x7_2 x8_23 = some r) ∧ Aside0 (kq ≤ kj14) ∧ Aside0 (Kd.S (Kd.slice 2 (Kd.int .i64)) 37 wc w.heap.size (fun _ => True) v102 x5_2) ∧ Aside0 (Below w.heap.size w wc))
           case first =>
            have H := HC24.out;clear HC24
            by_cases c25 : x58_14 = true
            ·subst c25
             have H1 : (if 0 ≤ x6_1 then (if x6_1 < (x5_2.length : Int) then (if 0 ≤ (wrap64 (x7_2 + 1)) then (if (wrap64 (x7_2 + 1)) < ((rd_L6 x5_2 x6_1).length : Int) then (spec_l07Costs.j4 kj14 l0 l1 x5_2 x6_1 x7_2 (wrap64 (2 + (rd (rd_L6 x5_2 x6_1) (wrap64 (x7_2 + 1)))))) else (none)) else (none)) else (none)) else (none)) = some r := by rw [if_pos rfl] at H;exact H
             clear H;have H := H1;clear H1
             by_cases c26 : 0 ≤ x6_1
             ·rw [if_pos c26] at H;have c26b0 : decide (0 ≤ x6_1) = true := decide_eq_true c26;clear c26;(first | rw [c26b0] | (simp only [i64_w,i32_w];rw [c26b0]) | skip)
              by_cases c27 : x6_1 < (x5_2.length : Int)
              ·rw [if_pos c27] at H;have c27b0 : decide (x6_1 < (x5_2.length : Int)) = true := decide_eq_true c27;clear c27;obtain ⟨ji28,hji28⟩ : ∃ j_ : Int,(wrap64 (x7_2 + 1)) = j_ := ⟨_,rfl⟩
               replace H : (if 0 ≤ (ji28) then (if (ji28) < ((rd_L6 x5_2 x6_1).length : Int) then (spec_l07Costs.j4 kj14 l0 l1 x5_2 x6_1 x7_2 (wrap64 (2 + (rd (rd_L6 x5_2 x6_1) (ji28))))) else (none)) else (none)) = some r := by first | (rw [hji28] at H;exact H) | (simp only [hji28] at H ⊢;exact H)
               have hji28w : (IntKind.i64.wrap (x7_2 + 1)) = ji28 := (i64_w _).trans hji28
               by_cases c29 : 0 ≤ (ji28)
               ·rw [if_pos c29] at H;have c29b0 : decide (0 ≤ (ji28)) = true := decide_eq_true c29;clear c29
                by_cases c30 : (ji28) < ((rd_L6 x5_2 x6_1).length : Int)
                ·rw [if_pos c30] at H;have c30b0 : decide ((ji28) < ((rd_L6 x5_2 x6_1).length : Int)) = true := decide_eq_true c30;clear c30;have H' := Aside0.mk H;clear H;obtain ⟨Ao31,co31,eo31⟩ := Kd.S_slice HO_5.out;subst eo31;have p108 : 0 ≤ (x6_1 : Int) := of_decide_eq_true (by first | (with_reducible assumption) | assumption);have q108 : x6_1 < (x5_2.length : Int) := of_decide_eq_true (by first | (with_reducible assumption) | assumption);obtain ⟨ad108,A108_0,c108_0,e108,hx108_0,hl108_0,hi108_0⟩ := at_L6 (Kd.S_reads' HO_5.out).2.2 x6_1 p108 q108;cases e108;obtain ⟨ce108,hce108,hMe108,hcc108⟩ := Kd.S_get HO_5.out [] x6_1 p108 (by first | exact q108 | exact of_decide_eq_true (by first | (with_reducible assumption) | assumption) | (have e_ := (Kd.S_reads' HO_5.out).1;omega));obtain ⟨ve108_0,rfl,ge108_0⟩ := hMe108;have hv108_0 := hcc108 0 _ rfl;rw [Nat.add_zero,show ((Kd.slice 2 (Kd.int .i64))).sz = 1 from rfl,Nat.mul_one] at hv108_0;replace hv108_0 := Option.some.inj (hv108_0.symm.trans hx108_0);rw [hv108_0] at ge108_0;have HL108_0 := Aside0.mk (show Kd.R (Kd.int .i64) 2 _ _ _ _ (rd_L6 x5_2 x6_1) from ge108_0);clear hv108_0 ge108_0;have HX108_0 := Aside0.mk hx108_0;clear hcc108 hce108;have HR108_0 := Aside0.mk hi108_0;have HC108_0 := Aside0.mk hl108_0;clear hi108_0 hl108_0;replace p108 := eq_true p108;replace q108 := eq_true q108;have p109 : 0 ≤ ((ji28) : Int) := of_decide_eq_true (by first | (with_reducible assumption) | assumption);have q109 : (ji28) < ((rd_L6 x5_2 x6_1).length : Int) := of_decide_eq_true (by first | (with_reducible assumption) | assumption);obtain ⟨ad109,e109,hx109_0⟩ := Kd.at_int (by repeat (first | (with_reducible exact HR108_0.out) | (with_reducible refine Kd.C_alloc ?_ _) | (with_reducible refine Kd.C_drewN ?_ _) | (with_reducible refine Kd.C_drew ?_) | exact HR108_0.out)) (ji28) p109 q109;cases e109;replace p109 := eq_true p109;replace q109 := eq_true q109
                 go_wp2
                 go_meet
                 case rel => exact ⟨_,(wrap64 (2 + (rd (rd_L6 x5_2 x6_1) (ji28)))),(by first | rfl | (simp only [IntKind.wrap_i64,wrap64];done) | (simp;done) | (simp only [← hji28] <;> (first | rfl | simp)) | (simp [*];done)),H',⟨by have := HK1.out;have := HK2.out;have := HJ6.out;have := HJ14.out;first | omega | exact Nat.le_refl _⟩,⟨by (with_reducible repeat (first | apply Kd.S_alloc | apply Kd.S_drewN | apply Kd.S_drew));exact HO_5.out⟩,⟨by repeat (first | (with_reducible first | exact HB.out | apply below_alloc | apply pw_below_drewN | apply below_drew1) | exact HB.out)⟩⟩
                ·rw [if_neg c30] at H;exact absurd H (by simp)
               ·rw [if_neg c29] at H;exact absurd H (by simp)
              ·rw [if_neg c27] at H;exact absurd H (by simp)
             ·rw [if_neg c26] at H;exact absurd H (by simp)
            ·replace c25 := Bool.eq_false_iff.mpr c25;subst c25
             have H1 : (spec_l07Costs.j4 kj14 l0 l1 x5_2 x6_1 x7_2 x8_6) = some r := by rw [if_neg (show ¬ (false = true) by decide)] at H;exact H
             clear H;have H := H1;clear H1;have H' := Aside0.mk H;clear H
             go_wp2
             go_meet
             case rel => exact ⟨_,(x8_6),(by first | rfl | (simp only [IntKind.wrap_i64,wrap64];done) | (simp;done) | (simp [*];done)),H',⟨by have := HK1.out;have := HK2.out;have := HJ6.out;have := HJ14.out;first | omega | exact Nat.le_refl _⟩,⟨by (with_reducible repeat (first | apply Kd.S_alloc | apply Kd.S_drewN | apply Kd.S_drew));exact HO_5.out⟩,⟨by repeat (first | (with_reducible first | exact HB.out | apply below_alloc | apply pw_below_drewN | apply below_drew1) | exact HB.out)⟩⟩
           case rest =>
            clear HC24;(try clear c1);(try clear p1);(try clear q1);(try clear hx1);(try clear c2);(try clear p2);(try clear c3);(try clear c5);(try clear c5b0);(try clear c6);(try clear c6b0);(try clear p6);(try clear c8);(try clear c8b0);(try clear c10);(try clear c10b0);(try clear p10);(try clear q10);(try clear hx10);(try clear c11);(try clear c11b0);(try clear c12);(try clear c12b0);(try clear c13);(try clear c13b0);(try clear c16);(try clear c16b0);(try clear c17);(try clear c17b0);(try clear c18);(try clear c18b0);(try clear c19);(try clear c19b0);(try clear c21);(try clear c21b0);(try clear c22);(try clear c22b0);(try clear c25);(try clear c26);(try clear c26b0);(try clear c27);(try clear c27b0);(try clear c29);(try clear c29b0);(try clear c30);(try clear c30b0);(try clear hx104_0);(try clear hx105_0);(try clear hx106_0);(try clear hx107_0);(try clear hx108_0);(try clear hx109_0);(try clear p1);(try clear p10);(try clear p104);(try clear p105);(try clear p106);(try clear p107);(try clear p108);(try clear p109);(try clear p2);(try clear p6);(try clear q1);(try clear q10);(try clear q104);(try clear q105);(try clear q106);(try clear q107);(try clear q108);(try clear q109);obtain ⟨kq,x8_23,rfl,HA,HJ23,HO_5,HB⟩ := hcut
            cases kq with
            | zero => exact absurd HA.out (by simp [spec_l07Costs.j4])
            | succ kj23 =>
             have H := HA.out;clear HA;simp only [spec_l07Costs.j4] at H;have HC32 := Aside0.mk H;clear H
             go_upto_region 13 with (fail)
             go_cut [77] (fun v77 wc => ∃ (kq : Nat) (x77_31 : Bool),v77 = .bool x77_31 ∧ Aside0 (spec_l07Costs.j5 kq l0 l1 x5_2 x6_1 x7_2 x8_23 x77_31 = some r) ∧ Aside0 (kq ≤ kj23) ∧ Aside0 (Kd.S (Kd.slice 2 (Kd.int .i64)) 37 wc w.heap.size (fun _ => True) v102 x5_2) ∧ Aside0 (Below w.heap.size w wc))
             case first =>
              have H := HC32.out;clear HC32
              by_cases c33 : x6_1 < (l0.length : Int)
              ·rw [if_pos c33] at H;have c33b0 : decide (x6_1 < (l0.length : Int)) = true := decide_eq_true c33;clear c33;(first | rw [c33b0] | (simp only [i64_w,i32_w];rw [c33b0]) | skip);have H' := Aside0.mk H;clear H
               go_wp2
               go_meet
               case rel => exact ⟨_,(decide (x7_2 < (l1.length : Int))),(by first | rfl | (simp only [IntKind.wrap_i64,wrap64];done) | (simp;done) | (simp [*];done)),H',⟨by have := HK1.out;have := HK2.out;have := HJ6.out;have := HJ14.out;have := HJ23.out;first | omega | exact Nat.le_refl _⟩,⟨by (with_reducible repeat (first | apply Kd.S_alloc | apply Kd.S_drewN | apply Kd.S_drew));exact HO_5.out⟩,⟨by repeat (first | (with_reducible first | exact HB.out | apply below_alloc | apply pw_below_drewN | apply below_drew1) | exact HB.out)⟩⟩
              ·rw [if_neg c33] at H;have c33b0 : decide (x6_1 < (l0.length : Int)) = false := decide_eq_false c33;clear c33;(first | rw [c33b0] | (simp only [i64_w,i32_w];rw [c33b0]) | skip);have H' := Aside0.mk H;clear H
               go_wp2
               go_meet
               case rel => exact ⟨_,(false),(by first | rfl | (simp only [IntKind.wrap_i64,wrap64];done) | (simp;done) | (simp [*];done)),H',⟨by have := HK1.out;have := HK2.out;have := HJ6.out;have := HJ14.out;have := HJ23.out;first | omega | exact Nat.le_refl _⟩,⟨by (with_reducible repeat (first | apply Kd.S_alloc | apply Kd.S_drewN | apply Kd.S_drew));exact HO_5.out⟩,⟨by repeat (first | (with_reducible first | exact HB.out | apply below_alloc | apply pw_below_drewN | apply below_drew1) | exact HB.out)⟩⟩
             case rest =>
              clear HC32;(try clear c1);(try clear p1);(try clear q1);(try clear hx1);(try clear c2);(try clear p2);(try clear c3);(try clear c5);(try clear c5b0);(try clear c6);(try clear c6b0);(try clear p6);(try clear c8);(try clear c8b0);(try clear c10);(try clear c10b0);(try clear p10);(try clear q10);(try clear hx10);(try clear c11);(try clear c11b0);(try clear c12);(try clear c12b0);(try clear c13);(try clear c13b0);(try clear c16);(try clear c16b0);(try clear c17);(try clear c17b0);(try clear c18);(try clear c18b0);(try clear c19);(try clear c19b0);(try clear c21);(try clear c21b0);(try clear c22);(try clear c22b0);(try clear c25);(try clear c26);(try clear c26b0);(try clear c27);(try clear c27b0);(try clear c29);(try clear c29b0);(try clear c30);(try clear c30b0);(try clear c33);(try clear c33b0);(try clear hx104_0);(try clear hx105_0);(try clear hx106_0);(try clear hx107_0);(try clear hx108_0);(try clear hx109_0);(try clear p1);(try clear p10);(try clear p104);(try clear p105);(try clear p106);(try clear p107);(try clear p108);(try clear p109);(try clear p2);(try clear p6);(try clear q1);(try clear q10);(try clear q104);(try clear q105);(try clear q106);(try clear q107);(try clear q108);(try clear q109);obtain ⟨kq,x77_31,rfl,HA,HJ31,HO_5,HB⟩ := hcut
              cases kq with
              | zero => exact absurd HA.out (by simp [spec_l07Costs.j5])
              | succ kj31 =>
               have H := HA.out;clear HA;simp only [spec_l07Costs.j5] at H
               by_cases c34 : x77_31 = true
               ·subst c34
                have H1 : (if 0 ≤ x6_1 then (if x6_1 < (l0.length : Int) then (if 0 ≤ x7_2 then (if x7_2 < (l1.length : Int) then ((spec_l07Cost.f ((rd_T73 l0 x6_1).f0) ((rd_T73 l0 x6_1).f1) ((rd_T73 l0 x6_1).f2) ((rd_T73 l1 x7_2).f0) ((rd_T73 l1 x7_2).f1) ((rd_T73 l1 x7_2).f2)).bind fun t112 => (if t112 ≥ 0 then (if 0 ≤ (wrap64 (x6_1 + 1)) then (if (wrap64 (x6_1 + 1)) < (x5_2.length : Int) then (if 0 ≤ (wrap64 (x7_2 + 1)) then (if (wrap64 (x7_2 + 1)) < ((rd_L6 x5_2 (wrap64 (x6_1 + 1))).length : Int) then (if (wrap64 (t112 + (rd (rd_L6 x5_2 (wrap64 (x6_1 + 1))) (wrap64 (x7_2 + 1))))) < x8_23 then (if x6_1 < (x5_2.length : Int) then ((spec_l00Max.f (wrap64 (t112 + (rd (rd_L6 x5_2 (wrap64 (x6_1 + 1))) (wrap64 (x7_2 + 1))))) 0).bind fun t118 => (if x7_2 < ((rd_L6 x5_2 x6_1).length : Int) then (spec_l07Costs.l1 kj31 l0 l1 (x5_2.set (x6_1 : Int).toNat ((rd_L6 x5_2 x6_1).set (x7_2 : Int).toNat t118)) x6_1 (wrap64 (x7_2 - 1))) else (none))) else (none)) else (if x6_1 < (x5_2.length : Int) then ((spec_l00Max.f x8_23 0).bind fun t123 => (if x7_2 < ((rd_L6 x5_2 x6_1).length : Int) then (spec_l07Costs.l1 kj31 l0 l1 (x5_2.set (x6_1 : Int).toNat ((rd_L6 x5_2 x6_1).set (x7_2 : Int).toNat t123)) x6_1 (wrap64 (x7_2 - 1))) else (none))) else (none))) else (none)) else (none)) else (none)) else (none)) else (if x6_1 < (x5_2.length : Int) then ((spec_l00Max.f x8_23 0).bind fun t128 => (if x7_2 < ((rd_L6 x5_2 x6_1).length : Int) then (spec_l07Costs.l1 kj31 l0 l1 (x5_2.set (x6_1 : Int).toNat ((rd_L6 x5_2 x6_1).set (x7_2 : Int).toNat t128)) x6_1 (wrap64 (x7_2 - 1))) else (none))) else (none)))) else (none)) else (none)) else (none)) else (none)) = some r := by rw [if_pos rfl] at H;exact H
                clear H;have H := H1;clear H1
                by_cases c35 : 0 ≤ x6_1
                ·rw [if_pos c35] at H;have c35b0 : decide (0 ≤ x6_1) = true := decide_eq_true c35;clear c35
                 by_cases c36 : x6_1 < (l0.length : Int)
                 ·rw [if_pos c36] at H;have c36b0 : decide (x6_1 < (l0.length : Int)) = true := decide_eq_true c36;clear c36
                  by_cases c37 : 0 ≤ x7_2
                  ·rw [if_pos c37] at H;have c37b0 : decide (0 ≤ x7_2) = true := decide_eq_true c37;clear c37
                   by_cases c38 : x7_2 < (l1.length : Int)
                   ·rw [if_pos c38] at H;have c38b0 : decide (x7_2 < (l1.length : Int)) = true := decide_eq_true c38;clear c38;replace H := Option.bind_eq_some_iff.mp H;obtain ⟨t112,A390,H⟩ := H;replace H : (if t112 ≥ 0 then (if 0 ≤ (wrap64 (x6_1 + 1)) then (if (wrap64 (x6_1 + 1)) < (x5_2.length : Int) then (if 0 ≤ (wrap64 (x7_2 + 1)) then (if (wrap64 (x7_2 + 1)) < ((rd_L6 x5_2 (wrap64 (x6_1 + 1))).length : Int) then (if (wrap64 (t112 + (rd (rd_L6 x5_2 (wrap64 (x6_1 + 1))) (wrap64 (x7_2 + 1))))) < x8_23 then (if x6_1 < (x5_2.length : Int) then ((spec_l00Max.f (wrap64 (t112 + (rd (rd_L6 x5_2 (wrap64 (x6_1 + 1))) (wrap64 (x7_2 + 1))))) 0).bind fun t118 => (if x7_2 < ((rd_L6 x5_2 x6_1).length : Int) then (spec_l07Costs.l1 kj31 l0 l1 (x5_2.set (x6_1 : Int).toNat ((rd_L6 x5_2 x6_1).set (x7_2 : Int).toNat t118)) x6_1 (wrap64 (x7_2 - 1))) else (none))) else (none)) else (if x6_1 < (x5_2.length : Int) then ((spec_l00Max.f x8_23 0).bind fun t123 => (if x7_2 < ((rd_L6 x5_2 x6_1).length : Int) then (spec_l07Costs.l1 kj31 l0 l1 (x5_2.set (x6_1 : Int).toNat ((rd_L6 x5_2 x6_1).set (x7_2 : Int).toNat t123)) x6_1 (wrap64 (x7_2 - 1))) else (none))) else (none))) else (none)) else (none)) else (none)) else (none)) else (if x6_1 < (x5_2.length : Int) then ((spec_l00Max.f x8_23 0).bind fun t128 => (if x7_2 < ((rd_L6 x5_2 x6_1).length : Int) then (spec_l07Costs.l1 kj31 l0 l1 (x5_2.set (x6_1 : Int).toNat ((rd_L6 x5_2 x6_1).set (x7_2 : Int).toNat t128)) x6_1 (wrap64 (x7_2 - 1))) else (none))) else (none))) = some r := H;have A39 := Aside0.mk A390;clear A390
                    by_cases c40 : t112 ≥ 0
                    ·rw [if_pos c40] at H;have c40b0 : decide (0 ≤ t112) = true := decide_eq_true c40;clear c40;obtain ⟨ji41,hji41⟩ : ∃ j_ : Int,(wrap64 (x6_1 + 1)) = j_ := ⟨_,rfl⟩
                     replace H : (if 0 ≤ (ji41) then (if (ji41) < (x5_2.length : Int) then (if 0 ≤ (wrap64 (x7_2 + 1)) then (if (wrap64 (x7_2 + 1)) < ((rd_L6 x5_2 (ji41)).length : Int) then (if (wrap64 (t112 + (rd (rd_L6 x5_2 (ji41)) (wrap64 (x7_2 + 1))))) < x8_23 then (if x6_1 < (x5_2.length : Int) then ((spec_l00Max.f (wrap64 (t112 + (rd (rd_L6 x5_2 (ji41)) (wrap64 (x7_2 + 1))))) 0).bind fun t118 => (if x7_2 < ((rd_L6 x5_2 x6_1).length : Int) then (spec_l07Costs.l1 kj31 l0 l1 (x5_2.set (x6_1 : Int).toNat ((rd_L6 x5_2 x6_1).set (x7_2 : Int).toNat t118)) x6_1 (wrap64 (x7_2 - 1))) else (none))) else (none)) else (if x6_1 < (x5_2.length : Int) then ((spec_l00Max.f x8_23 0).bind fun t123 => (if x7_2 < ((rd_L6 x5_2 x6_1).length : Int) then (spec_l07Costs.l1 kj31 l0 l1 (x5_2.set (x6_1 : Int).toNat ((rd_L6 x5_2 x6_1).set (x7_2 : Int).toNat t123)) x6_1 (wrap64 (x7_2 - 1))) else (none))) else (none))) else (none)) else (none)) else (none)) else (none)) = some r := by first | (rw [hji41] at H;exact H) | (simp only [hji41] at H ⊢;exact H)
                     (try rw [hji41] at A39);have hji41w : (IntKind.i64.wrap (x6_1 + 1)) = ji41 := (i64_w _).trans hji41
                     by_cases c42 : 0 ≤ (ji41)
                     ·rw [if_pos c42] at H;have c42b0 : decide (0 ≤ (ji41)) = true := decide_eq_true c42;clear c42
                      by_cases c43 : (ji41) < (x5_2.length : Int)
                      ·rw [if_pos c43] at H;have c43b0 : decide ((ji41) < (x5_2.length : Int)) = true := decide_eq_true c43;clear c43;obtain ⟨ji44,hji44⟩ : ∃ j_ : Int,(wrap64 (x7_2 + 1)) = j_ := ⟨_,rfl⟩
                       replace H : (if 0 ≤ (ji44) then (if (ji44) < ((rd_L6 x5_2 (ji41)).length : Int) then (if (wrap64 (t112 + (rd (rd_L6 x5_2 (ji41)) (ji44)))) < x8_23 then (if x6_1 < (x5_2.length : Int) then ((spec_l00Max.f (wrap64 (t112 + (rd (rd_L6 x5_2 (ji41)) (ji44)))) 0).bind fun t118 => (if x7_2 < ((rd_L6 x5_2 x6_1).length : Int) then (spec_l07Costs.l1 kj31 l0 l1 (x5_2.set (x6_1 : Int).toNat ((rd_L6 x5_2 x6_1).set (x7_2 : Int).toNat t118)) x6_1 (wrap64 (x7_2 - 1))) else (none))) else (none)) else (if x6_1 < (x5_2.length : Int) then ((spec_l00Max.f x8_23 0).bind fun t123 => (if x7_2 < ((rd_L6 x5_2 x6_1).length : Int) then (spec_l07Costs.l1 kj31 l0 l1 (x5_2.set (x6_1 : Int).toNat ((rd_L6 x5_2 x6_1).set (x7_2 : Int).toNat t123)) x6_1 (wrap64 (x7_2 - 1))) else (none))) else (none))) else (none)) else (none)) = some r := by first | (rw [hji44] at H;exact H) | (simp only [hji44] at H ⊢;exact H)
                       (try rw [hji44] at A39);have hji44w : (IntKind.i64.wrap (x7_2 + 1)) = ji44 := (i64_w _).trans hji44
                       by_cases c45 : 0 ≤ (ji44)
                       ·rw [if_pos c45] at H;have c45b0 : decide (0 ≤ (ji44)) = true := decide_eq_true c45;clear c45
                        by_cases c46 : (ji44) < ((rd_L6 x5_2 (ji41)).length : Int)
                        ·rw [if_pos c46] at H;have c46b0 : decide ((ji44) < ((rd_L6 x5_2 (ji41)).length : Int)) = true := decide_eq_true c46;clear c46
                         by_cases c47 : (wrap64 (t112 + (rd (rd_L6 x5_2 (ji41)) (ji44)))) < x8_23
                         ·rw [if_pos c47] at H;have c47b0 : decide ((wrap64 (t112 + (rd (rd_L6 x5_2 (ji41)) (ji44)))) < x8_23) = true := decide_eq_true c47;clear c47
                          by_cases c48 : x6_1 < (x5_2.length : Int)
                          ·rw [if_pos c48] at H;have c48b0 : decide (x6_1 < (x5_2.length : Int)) = true := decide_eq_true c48;clear c48;replace H := Option.bind_eq_some_iff.mp H;obtain ⟨t118,A490,H⟩ := H;replace H : (if x7_2 < ((rd_L6 x5_2 x6_1).length : Int) then (spec_l07Costs.l1 kj31 l0 l1 (x5_2.set (x6_1 : Int).toNat ((rd_L6 x5_2 x6_1).set (x7_2 : Int).toNat t118)) x6_1 (wrap64 (x7_2 - 1))) else (none)) = some r := H;have A49 := Aside0.mk A490;clear A490
                           by_cases c50 : x7_2 < ((rd_L6 x5_2 x6_1).length : Int)
                           ·rw [if_pos c50] at H;have c50b0 : decide (x7_2 < ((rd_L6 x5_2 x6_1).length : Int)) = true := decide_eq_true c50;clear c50;obtain ⟨y119,hy119⟩ : ∃ y_ : List Int,y_ = ((rd_L6 x5_2 x6_1).set (x7_2 : Int).toNat t118) := ⟨_,rfl⟩
                            replace H : (spec_l07Costs.l1 kj31 l0 l1 (x5_2.set (x6_1 : Int).toNat y119) x6_1 (wrap64 (x7_2 - 1))) = some r := by first | (rw [hy119];with_reducible exact H) | (have H2_ := (Option.bind_some _ _).symm.trans H;rw [hy119];with_reducible exact H2_) | (have H2_ := (Option.bind_some _ _).symm.trans H;with_reducible exact H2_) | with_reducible exact H | (rw [hy119];exact H) | exact H
                            have Ny119 := Aside0.mk hy119;clear hy119;obtain ⟨y121,hy121⟩ : ∃ y_ : List (List Int),y_ = (x5_2.set (x6_1 : Int).toNat y119) := ⟨_,rfl⟩
                            replace H : (spec_l07Costs.l1 kj31 l0 l1 y121 x6_1 (wrap64 (x7_2 - 1))) = some r := by first | (rw [hy121];with_reducible exact H) | (have H2_ := (Option.bind_some _ _).symm.trans H;rw [hy121];with_reducible exact H2_) | (have H2_ := (Option.bind_some _ _).symm.trans H;with_reducible exact H2_) | with_reducible exact H | (rw [hy121];exact H) | exact H
                            have Ny121 := Aside0.mk hy121;clear hy121;have H' := Aside0.mk H;clear H;(try go_wp2);have n0_ := Aside0.mk (Kd.S_drew HO_5.out);have n1_ := Aside0.mk (below_drew1 HB.out);clear HO_5;clear HB;have HO_5 := n0_;have HB := n1_;clear n0_ n1_;have p110 : 0 ≤ (x6_1 : Int) := of_decide_eq_true (by first | (with_reducible assumption) | assumption);have q110 : x6_1 < (l0.length : Int) := of_decide_eq_true (by first | (with_reducible assumption) | assumption);obtain ⟨ad110,e110,hx110_0,hx110_1,hx110_2⟩ := at_T73 HR0.out x6_1 p110 q110;have hw110_2 := hx110_2;have hw110_1 := hx110_1;have hw110_0 := hx110_0;cases e110;replace hx110_0 := (HB.out.cell (World.block_lt_of_cell? w _ hx110_0)).trans hx110_0;replace hx110_1 := (HB.out.cell (World.block_lt_of_cell? w _ hx110_1)).trans hx110_1;replace hx110_2 := (HB.out.cell (World.block_lt_of_cell? w _ hx110_2)).trans hx110_2;replace p110 := eq_true p110;replace q110 := eq_true q110;have p111 : 0 ≤ (x7_2 : Int) := of_decide_eq_true (by first | (with_reducible assumption) | assumption);have q111 : x7_2 < (l1.length : Int) := of_decide_eq_true (by first | (with_reducible assumption) | assumption);obtain ⟨ad111,e111,hx111_0,hx111_1,hx111_2⟩ := at_T73 HR1.out x7_2 p111 q111;have hw111_2 := hx111_2;have hw111_1 := hx111_1;have hw111_0 := hx111_0;cases e111;replace hx111_0 := (HB.out.cell (World.block_lt_of_cell? w _ hx111_0)).trans hx111_0;replace hx111_1 := (HB.out.cell (World.block_lt_of_cell? w _ hx111_1)).trans hx111_1;replace hx111_2 := (HB.out.cell (World.block_lt_of_cell? w _ hx111_2)).trans hx111_2;replace p111 := eq_true p111;replace q111 := eq_true q111;refine start_ (n := 10) (S := fun w' => w'.cell? (ad110.add ((x6_1).toNat * 3)) = some (.int .i64 ((rd_T73 l0 x6_1).f0)) ∧ w'.cell? ⟨(ad110.add ((x6_1).toNat * 3)).block,(ad110.add ((x6_1).toNat * 3)).off + 1,none⟩ = some (.int .i64 ((rd_T73 l0 x6_1).f1)) ∧ w'.cell? ⟨(ad110.add ((x6_1).toNat * 3)).block,(ad110.add ((x6_1).toNat * 3)).off + 2,none⟩ = some (.bool ((rd_T73 l0 x6_1).f2)) ∧ w'.cell? (ad111.add ((x7_2).toNat * 3)) = some (.int .i64 ((rd_T73 l1 x7_2).f0)) ∧ w'.cell? ⟨(ad111.add ((x7_2).toNat * 3)).block,(ad111.add ((x7_2).toNat * 3)).off + 1,none⟩ = some (.int .i64 ((rd_T73 l1 x7_2).f1)) ∧ w'.cell? ⟨(ad111.add ((x7_2).toNat * 3)).block,(ad111.add ((x7_2).toNat * 3)).off + 2,none⟩ = some (.bool ((rd_T73 l1 x7_2).f2))) (ds := []) #[false,false,false,false,false,false,false,false,false,false] (by kernel_rfl) rfl rfl ⟨((HB.out.cell (World.block_lt_of_cell? w _ hw110_0)).trans hw110_0),((HB.out.cell (World.block_lt_of_cell? w _ hw110_1)).trans hw110_1),((HB.out.cell (World.block_lt_of_cell? w _ hw110_2)).trans hw110_2),((HB.out.cell (World.block_lt_of_cell? w _ hw111_0)).trans hw111_0),((HB.out.cell (World.block_lt_of_cell? w _ hw111_1)).trans hw111_1),((HB.out.cell (World.block_lt_of_cell? w _ hw111_2)).trans hw111_2)⟩ (fun hHeld => ?_);refine with_tabW spec_l07Costs.tab14 spec_l07Costs.bits14 (fun HT_ HW_ => ?_);generalize wc.drew = w52 at HO_5 HB hx110_0 hx110_1 hx110_2 hx111_0 hx111_1 hx111_2 hHeld ⊢;refine pure_ (i := 0) (N := some 78) (v := ?_) (a' := ?_) #[true,false,false,false,false,false,false,false,false,false] rfl rfl (any_of HT_.out (by kernel_rfl)) (fun _ _ _ h => h) (Or.inl ⟨by rfl,?_⟩) ?_ ?_;rotate_left
                            ·intro w';go_simp;with_reducible rfl
                            rotate_left
                            ·simp only [Act.put,List.setIfInBounds_toArray,List.set_cons_zero,List.set_cons_succ,i64_w,i32_w];rfl
                            refine pure_ (i := 1) (N := some 79) (v := ?_) (a' := ?_) #[true,true,false,false,false,false,false,false,false,false] rfl rfl (any_of HT_.out (by kernel_rfl)) (fun _ _ _ h => h) (Or.inl ⟨by rfl,?_⟩) ?_ ?_;rotate_left
                            ·intro w';go_simp;with_reducible rfl
                            rotate_left
                            ·simp only [Act.put,List.setIfInBounds_toArray,List.set_cons_zero,List.set_cons_succ,i64_w,i32_w];rfl
                            refine pure_ (i := 2) (N := some 80) (v := ?_) (a' := ?_) #[true,true,true,false,false,false,false,false,false,false] rfl rfl (any_of HT_.out (by kernel_rfl)) (fun _ _ _ h => h) (Or.inl ⟨by rfl,?_⟩) ?_ ?_;rotate_left
                            ·intro w';go_simp;with_reducible rfl
                            rotate_left
                            ·simp only [Act.put,List.setIfInBounds_toArray,List.set_cons_zero,List.set_cons_succ,i64_w,i32_w];rfl
                            refine pure_ (i := 4) (N := some 82) (v := ?_) (a' := ?_) #[true,true,true,false,true,false,false,false,false,false] rfl rfl (any_of HT_.out (by kernel_rfl)) (fun _ _ _ h => h) (Or.inl ⟨by rfl,?_⟩) ?_ ?_;rotate_left
                            ·intro w';go_simp;with_reducible rfl
                            rotate_left
                            ·simp only [Act.put,List.setIfInBounds_toArray,List.set_cons_zero,List.set_cons_succ,i64_w,i32_w];rfl
                            refine pure_ (i := 5) (N := some 83) (v := ?_) (a' := ?_) #[true,true,true,false,true,true,false,false,false,false] rfl rfl (any_of HT_.out (by kernel_rfl)) (fun _ _ _ h => h) (Or.inl ⟨by rfl,?_⟩) ?_ ?_;rotate_left
                            ·intro w';go_simp;with_reducible rfl
                            rotate_left
                            ·simp only [Act.put,List.setIfInBounds_toArray,List.set_cons_zero,List.set_cons_succ,i64_w,i32_w];rfl
                            refine pure_ (i := 6) (N := some 84) (v := ?_) (a' := ?_) #[true,true,true,false,true,true,true,false,false,false] rfl rfl (any_of HT_.out (by kernel_rfl)) (fun _ _ _ h => h) (Or.inl ⟨by rfl,?_⟩) ?_ ?_;rotate_left
                            ·intro w';go_simp;with_reducible rfl
                            rotate_left
                            ·simp only [Act.put,List.setIfInBounds_toArray,List.set_cons_zero,List.set_cons_succ,i64_w,i32_w];rfl
                            refine take_ (i := 3) (N := some 81) (v := ?_) (a' := ?_) #[true,true,true,true,true,true,true,false,false,false] rfl rfl (take_ofW HT_.out HW_.out (by kernel_rfl)) (fun _ _ _ h => h) (Or.inl ⟨by rfl,?_⟩) hHeld ?_ ?_;rotate_left
                            ·rintro w' ⟨s0,s1,s2,s3,s4,s5⟩
                             go_simp;with_reducible rfl
                            rotate_left
                            ·simp only [Act.put,List.setIfInBounds_toArray,List.set_cons_zero,List.set_cons_succ,i64_w,i32_w];rfl
                            refine take_ (i := 7) (N := some 85) (v := ?_) (a' := ?_) #[true,true,true,true,true,true,true,true,false,false] rfl rfl (take_ofW HT_.out HW_.out (by kernel_rfl)) (fun _ _ _ h => h) (Or.inl ⟨by rfl,?_⟩) hHeld ?_ ?_;rotate_left
                            ·rintro w' ⟨s0,s1,s2,s3,s4,s5⟩
                             go_simp;with_reducible rfl
                            rotate_left
                            ·simp only [Act.put,List.setIfInBounds_toArray,List.set_cons_zero,List.set_cons_succ,i64_w,i32_w];rfl
                            refine one_ (i := 8) (N := some 86) #[true,true,true,true,true,true,true,true,true,false] rfl rfl (one_of HT_.out (by kernel_rfl)) (by decide) (fun K hK => ?_);refine goes_ Try.func95 (by kernel_rfl) rfl #[.agg #[.int .i64 ((rd_T73 l0 x6_1).f0),.int .i64 ((rd_T73 l0 x6_1).f1),.bool ((rd_T73 l0 x6_1).f2)],.agg #[.int .i64 ((rd_T73 l1 x7_2).f0),.int .i64 ((rd_T73 l1 x7_2).f1),.bool ((rd_T73 l1 x7_2).f2)]] (by rfl) rfl rfl (by (try simp only [List.map_toArray,List.map_cons,List.map_nil]);first | done | rfl | (simp only [List.length_drop,List.length_take];rfl)) ?_
                            with_reducible refine (spec_l07Cost.calls ((rd_T73 l0 x6_1).f0) ((rd_T73 l0 x6_1).f1) ((rd_T73 l0 x6_1).f2) ((rd_T73 l1 x7_2).f0) ((rd_T73 l1 x7_2).f1) ((rd_T73 l1 x7_2).f2) t112 _ A39.out).mono ?_
                            rintro e w53 ⟨rfl,hb⟩
                            refine ⟨_,rfl,?_⟩;have n0_ := Aside0.mk (Kd.S_below (by (with_reducible repeat (first | apply Kd.S_alloc | apply Kd.S_drewN | apply Kd.S_drew));exact HO_5.out) hb);have n1_ := Aside0.mk (below_step (by repeat (first | (with_reducible first | exact HB.out | apply below_alloc | apply pw_below_drewN | apply below_drew1) | exact HB.out)) hb);clear HO_5;clear HB;have HO_5 := n0_;have HB := n1_;clear n0_ n1_;(try clear hb);(try clear hb2);(try clear hk);(try clear hi);refine hK.out _ _ ⟨((HB.out.cell (World.block_lt_of_cell? w _ hw110_0)).trans hw110_0),((HB.out.cell (World.block_lt_of_cell? w _ hw110_1)).trans hw110_1),((HB.out.cell (World.block_lt_of_cell? w _ hw110_2)).trans hw110_2),((HB.out.cell (World.block_lt_of_cell? w _ hw111_0)).trans hw111_0),((HB.out.cell (World.block_lt_of_cell? w _ hw111_1)).trans hw111_1),((HB.out.cell (World.block_lt_of_cell? w _ hw111_2)).trans hw111_2)⟩ (fun hHeld => ?_);clear hK K;refine norm_ (a' := ?_) ?_ ?_;rotate_left
                            ·show Act.put _ (some 86) _ = _
                             simp only [Act.put,List.setIfInBounds_toArray,List.set_cons_zero,List.set_cons_succ,i64_w,i32_w];rfl
                            refine pure_ (i := 9) (N := some 9) (v := ?_) (a' := ?_) #[true,true,true,true,true,true,true,true,true,true] rfl rfl (any_of HT_.out (by kernel_rfl)) (fun _ _ _ h => h) (Or.inl ⟨by rfl,?_⟩) ?_ ?_;rotate_left
                            ·intro w';go_simp;with_reducible rfl
                            rotate_left
                            ·simp only [Act.put,List.setIfInBounds_toArray,List.set_cons_zero,List.set_cons_succ,i64_w,i32_w];rfl
                            refine done_ (done_of HT_.out (by kernel_rfl)) ?_;obtain ⟨Ao54,co54,eo54⟩ := Kd.S_slice HO_5.out;subst eo54;have p113 : 0 ≤ ((ji41) : Int) := of_decide_eq_true (by first | (with_reducible assumption) | assumption);have q113 : (ji41) < (x5_2.length : Int) := of_decide_eq_true (by first | (with_reducible assumption) | assumption);obtain ⟨ad113,A113_0,c113_0,e113,hx113_0,hl113_0,hi113_0⟩ := at_L6 (Kd.S_reads' HO_5.out).2.2 (ji41) p113 q113;cases e113;obtain ⟨ce113,hce113,hMe113,hcc113⟩ := Kd.S_get HO_5.out [] (ji41) p113 (by first | exact q113 | exact of_decide_eq_true (by first | (with_reducible assumption) | assumption) | (have e_ := (Kd.S_reads' HO_5.out).1;omega));obtain ⟨ve113_0,rfl,ge113_0⟩ := hMe113;have hv113_0 := hcc113 0 _ rfl;rw [Nat.add_zero,show ((Kd.slice 2 (Kd.int .i64))).sz = 1 from rfl,Nat.mul_one] at hv113_0;replace hv113_0 := Option.some.inj (hv113_0.symm.trans hx113_0);rw [hv113_0] at ge113_0;have HL113_0 := Aside0.mk (show Kd.R (Kd.int .i64) 2 _ _ _ _ (rd_L6 x5_2 (ji41)) from ge113_0);clear hv113_0 ge113_0;have HX113_0 := Aside0.mk hx113_0;clear hcc113 hce113;have HR113_0 := Aside0.mk hi113_0;have HC113_0 := Aside0.mk hl113_0;clear hi113_0 hl113_0;replace p113 := eq_true p113;replace q113 := eq_true q113;have p114 : 0 ≤ ((ji44) : Int) := of_decide_eq_true (by first | (with_reducible assumption) | assumption);have q114 : (ji44) < ((rd_L6 x5_2 (ji41)).length : Int) := of_decide_eq_true (by first | (with_reducible assumption) | assumption);obtain ⟨ad114,e114,hx114_0⟩ := Kd.at_int (by repeat (first | (with_reducible exact HR113_0.out) | (with_reducible refine Kd.C_alloc ?_ _) | (with_reducible refine Kd.C_drewN ?_ _) | (with_reducible refine Kd.C_drew ?_) | exact HR113_0.out)) (ji44) p114 q114;cases e114;replace p114 := eq_true p114;replace q114 := eq_true q114;have p115 : 0 ≤ ((ji41) : Int) := of_decide_eq_true (by first | (with_reducible assumption) | assumption);have q115 : (ji41) < (x5_2.length : Int) := of_decide_eq_true (by first | (with_reducible assumption) | assumption);obtain ⟨ad115,A115_0,c115_0,e115,hx115_0,hl115_0,hi115_0⟩ := at_L6 (Kd.S_reads' HO_5.out).2.2 (ji41) p115 q115;obtain rfl : ad113 = ad115 := (by injection e115);obtain ⟨ce115,hce115,hMe115,hcc115⟩ := Kd.S_get HO_5.out [] (ji41) p115 (by first | exact q115 | exact of_decide_eq_true (by first | (with_reducible assumption) | assumption) | (have e_ := (Kd.S_reads' HO_5.out).1;omega));obtain ⟨ve115_0,rfl,ge115_0⟩ := hMe115;have hv115_0 := hcc115 0 _ rfl;rw [Nat.add_zero,show ((Kd.slice 2 (Kd.int .i64))).sz = 1 from rfl,Nat.mul_one] at hv115_0;replace hv115_0 := Option.some.inj (hv115_0.symm.trans hx115_0);rw [hv115_0] at ge115_0;have HL115_0 := Aside0.mk (show Kd.R (Kd.int .i64) 2 _ _ _ _ (rd_L6 x5_2 (ji41)) from ge115_0);clear hv115_0 ge115_0;have HX115_0 := Aside0.mk hx115_0;clear hcc115 hce115;have HR115_0 := Aside0.mk hi115_0;have HC115_0 := Aside0.mk hl115_0;clear hi115_0 hl115_0;replace p115 := eq_true p115;replace q115 := eq_true q115;have ea_ := Option.some.inj (hx113_0.symm.trans hx115_0)
                            injection ea_ with ea_ en_ ec_
                            subst ea_;subst ec_;clear en_;have p116 : 0 ≤ ((ji44) : Int) := of_decide_eq_true (by first | (with_reducible assumption) | assumption);have q116 : (ji44) < ((rd_L6 x5_2 (ji41)).length : Int) := of_decide_eq_true (by first | (with_reducible assumption) | assumption);obtain ⟨ad116,e116,hx116_0⟩ := Kd.at_int (by repeat (first | (with_reducible exact HR115_0.out) | (with_reducible refine Kd.C_alloc ?_ _) | (with_reducible refine Kd.C_drewN ?_ _) | (with_reducible refine Kd.C_drew ?_) | exact HR115_0.out)) (ji44) p116 q116;cases e116;replace p116 := eq_true p116;replace q116 := eq_true q116;(try go_wp2);have n0_ := Aside0.mk (Kd.S_drew HO_5.out);have n1_ := Aside0.mk (Kd.R_drew HL113_0.out);have n2_ := Aside0.mk (Kd.R_drew HL115_0.out);have n3_ := Aside0.mk (Kd.C_drew HR113_0.out);have n4_ := Aside0.mk (Kd.C_drew HR115_0.out);have n5_ := Aside0.mk (below_drew1 HB.out);clear HO_5;clear HL113_0;clear HL115_0;clear HR113_0;clear HR115_0;clear HB;have HO_5 := n0_;have HL113_0 := n1_;have HL115_0 := n2_;have HR113_0 := n3_;have HR115_0 := n4_;have HB := n5_;clear n0_ n1_ n2_ n3_ n4_ n5_;have p117 : 0 ≤ (x6_1 : Int) := of_decide_eq_true (by first | (with_reducible assumption) | assumption);have q117 : x6_1 < (x5_2.length : Int) := of_decide_eq_true (by first | (with_reducible assumption) | assumption);obtain ⟨ad117,A117_0,c117_0,e117,hx117_0,hl117_0,hi117_0⟩ := at_L6 (Kd.S_reads' HO_5.out).2.2 x6_1 p117 q117;obtain rfl : ad113 = ad117 := (by injection e117);obtain ⟨ce117,hce117,hMe117,hcc117⟩ := Kd.S_get HO_5.out [] x6_1 p117 (by first | exact q117 | exact of_decide_eq_true (by first | (with_reducible assumption) | assumption) | (have e_ := (Kd.S_reads' HO_5.out).1;omega));obtain ⟨ve117_0,rfl,ge117_0⟩ := hMe117;have hv117_0 := hcc117 0 _ rfl;rw [Nat.add_zero,show ((Kd.slice 2 (Kd.int .i64))).sz = 1 from rfl,Nat.mul_one] at hv117_0;replace hv117_0 := Option.some.inj (hv117_0.symm.trans hx117_0);rw [hv117_0] at ge117_0;have HL117_0 := Aside0.mk (show Kd.R (Kd.int .i64) 2 _ _ _ _ (rd_L6 x5_2 x6_1) from ge117_0);clear hv117_0 ge117_0;have HX117_0 := Aside0.mk hx117_0;clear hcc117 hce117;have HR117_0 := Aside0.mk hi117_0;have HC117_0 := Aside0.mk hl117_0;clear hi117_0 hl117_0;replace p117 := eq_true p117;replace q117 := eq_true q117;refine start_ (n := 9) (S := fun w' => w'.cell? (ad113.add (x6_1).toNat) = some (.slice A117_0 (rd_L6 x5_2 x6_1).length c117_0)) (ds := [8]) #[false,false,false,false,false,false,false,false,false] (by kernel_rfl) rfl rfl (hx117_0) (fun hHeld => ?_);refine with_tabW spec_l07Costs.tab17 spec_l07Costs.bits17 (fun HT_ HW_ => ?_);generalize w53.drew = w55 at HO_5 HL113_0 HL115_0 HR113_0 HR115_0 HB HL117_0 HR117_0 HX117_0 hx117_0 hHeld ⊢;refine pure_ (i := 0) (N := some 115) (v := ?_) (a' := ?_) #[true,false,false,false,false,false,false,false,false] rfl rfl (any_of HT_.out (by kernel_rfl)) (fun _ _ _ h => h) (Or.inl ⟨by rfl,?_⟩) ?_ ?_;rotate_left
                            ·intro w';go_simp;with_reducible rfl
                            rotate_left
                            ·simp only [Act.put,List.setIfInBounds_toArray,List.set_cons_zero,List.set_cons_succ,i64_w,i32_w];rfl
                            refine pure_ (i := 1) (N := some 116) (v := ?_) (a' := ?_) #[true,true,false,false,false,false,false,false,false] rfl rfl (any_of HT_.out (by kernel_rfl)) (fun _ _ _ h => h) (Or.inl ⟨by rfl,?_⟩) ?_ ?_;rotate_left
                            ·intro w';go_simp;with_reducible rfl
                            rotate_left
                            ·simp only [Act.put,List.setIfInBounds_toArray,List.set_cons_zero,List.set_cons_succ,i64_w,i32_w];rfl
                            refine pure_ (i := 2) (N := some 117) (v := ?_) (a' := ?_) #[true,true,true,false,false,false,false,false,false] rfl rfl (any_of HT_.out (by kernel_rfl)) (fun _ _ _ h => h) (Or.inl ⟨by rfl,?_⟩) ?_ ?_;rotate_left
                            ·intro w';go_simp;with_reducible rfl
                            rotate_left
                            ·simp only [Act.put,List.setIfInBounds_toArray,List.set_cons_zero,List.set_cons_succ,i64_w,i32_w];rfl
                            refine pure_ (i := 4) (N := some 119) (v := ?_) (a' := ?_) #[true,true,true,false,true,false,false,false,false] rfl rfl (any_of HT_.out (by kernel_rfl)) (fun _ _ _ h => h) (Or.inl ⟨by rfl,?_⟩) ?_ ?_;rotate_left
                            ·intro w';go_simp;with_reducible rfl
                            rotate_left
                            ·simp only [Act.put,List.setIfInBounds_toArray,List.set_cons_zero,List.set_cons_succ,i64_w,i32_w];rfl
                            refine pure_ (i := 5) (N := some 120) (v := ?_) (a' := ?_) #[true,true,true,false,true,true,false,false,false] rfl rfl (any_of HT_.out (by kernel_rfl)) (fun _ _ _ h => h) (Or.inl ⟨by rfl,?_⟩) ?_ ?_;rotate_left
                            ·intro w';go_simp;with_reducible rfl
                            rotate_left
                            ·simp only [Act.put,List.setIfInBounds_toArray,List.set_cons_zero,List.set_cons_succ,i64_w,i32_w];rfl
                            refine take_ (i := 3) (N := some 118) (v := ?_) (a' := ?_) #[true,true,true,true,true,true,false,false,false] rfl rfl (take_ofW HT_.out HW_.out (by kernel_rfl)) (fun _ _ _ h => h) (Or.inl ⟨by rfl,?_⟩) hHeld ?_ ?_;rotate_left
                            ·intro w' s0;go_simp;with_reducible rfl
                            rotate_left
                            ·simp only [Act.put,List.setIfInBounds_toArray,List.set_cons_zero,List.set_cons_succ,i64_w,i32_w];rfl
                            refine one_ (i := 6) (N := some 121) #[true,true,true,true,true,true,true,false,false] rfl rfl (one_of HT_.out (by kernel_rfl)) (by decide) (fun K hK => ?_);refine goes_ Try.func107 (by kernel_rfl) rfl #[.int .i64 (wrap64 (t112 + (rd (rd_L6 x5_2 (ji41)) (ji44)))),.int .i64 0] (by rfl) rfl rfl (by (try simp only [List.map_toArray,List.map_cons,List.map_nil]);first | done | (simp only [hji41,hji44];rfl) | rfl | (simp only [List.length_drop,List.length_take];rfl)) ?_
                            with_reducible refine (spec_l00Max.calls (wrap64 (t112 + (rd (rd_L6 x5_2 (ji41)) (ji44)))) 0 t118 _ A49.out).mono ?_
                            rintro e w' ⟨rfl,⟨nd,rfl⟩⟩
                            refine ⟨_,rfl,?_⟩;have p51 : 0 ≤ (x7_2 : Int) := of_decide_eq_true (by first | (with_reducible assumption) | assumption);have q51 : (x7_2 : Int) < (((rd_L6 x5_2 x6_1).length : Int) : Int) := of_decide_eq_true (by first | (with_reducible assumption) | assumption);obtain ⟨go51,co51,eo51,gb51,gl51,cl51,HG51⟩ := Kd.R_form HL117_0.out (by omega);(first | cases eo51 | (injection eo51 with ea_ en_ ec_;(first | subst ea_ | (injection ea_ with ea_;subst ea_));subst ec_;clear en_));have GB51 := Aside0.mk gb51;have GG51 := Aside0.mk HG51;clear gb51 gl51 HG51;obtain ⟨hx51_0,hf51_0⟩ := Kd.R_celln 0 HL117_0.out (x7_2 : Int) p51 q51;replace p51 := eq_true p51;replace q51 := eq_true q51;have hq56 : (x6_1 : Int) < (x5_2.length : Int) := (by have h_ : (x6_1 : Int) < ((x5_2.length : Int) : Int) := of_decide_eq_true (by first | (with_reducible assumption) | assumption);first | exact h_ | (have e_ := (Kd.S_reads' HO_5.out).1;omega) | simpa only [List.length_set,List.length_set] using h_);obtain ⟨oki56,ce56,hcl56,hM56,hcc56,hok56,hbk56⟩ := Kd.S_borrow HO_5.out [] (x6_1 : Int) (of_decide_eq_true (by first | (with_reducible assumption) | assumption)) hq56;obtain ⟨ve56_0,rfl,ge56_0⟩ := hM56;have hv56 := hcc56 0 _ rfl;rw [Nat.add_zero,show ((Kd.slice 2 (Kd.int .i64))).sz = 1 from rfl,Nat.mul_one] at hv56;replace hv56 := Option.some.inj (hv56.symm.trans HX117_0.out);subst hv56;clear hcc56 hcl56;replace ge56_0 := (show Kd.R (Kd.int .i64) 2 _ _ _ _ (rd_L6 x5_2 x6_1) from ge56_0);have HP56 := Kd.R_putg ge56_0 (x7_2 : Int) t118;rw [← Ny119.out] at HP56;have HS56 := hbk56 HP56.2 (fun k_ e_ => by injection e_ with e_;subst e_;exact ge56_0.1 _ rfl) (x' := y119) (Kd.M_row HP56.1);rw [← Ny121.out] at HS56;have HQ56 := Aside0.mk HS56;clear HP56 HS56 hbk56 hok56;refine hK.out _ _ (hHeld) (fun hHeld => ?_);clear hK K;refine norm_ (a' := ?_) ?_ ?_;rotate_left
                            ·show Act.put _ (some 121) _ = _
                             simp only [Act.put,List.setIfInBounds_toArray,List.set_cons_zero,List.set_cons_succ,i64_w,i32_w];rfl
                            refine pure_ (i := 7) (N := some 122) (v := ?_) (a' := ?_) #[true,true,true,true,true,true,true,true,false] rfl rfl (any_of HT_.out (by kernel_rfl)) (fun _ _ _ h => h) (Or.inl ⟨by rfl,?_⟩) ?_ ?_;rotate_left
                            ·intro w';go_simp;with_reducible rfl
                            rotate_left
                            ·simp only [Act.put,List.setIfInBounds_toArray,List.set_cons_zero,List.set_cons_succ,i64_w,i32_w];rfl
                            refine last_ (i := 8) (N := none) #[true,true,true,true,true,true,true,true,true] rfl rfl (one_of HT_.out (by kernel_rfl)) (by decide) (fun K hK => ?_);refine skip_ (w1 := ?_) (by rfl) rfl ?_ ?_;rotate_left
                            ·go_simp;rfl
                            refine hK.out _ _ ?_;clear hK K;refine done_ (done_of HT_.out (by kernel_rfl)) ?_;(try go_wp2)
                            go_roundg kj31
                            case measure => have := HK1.out;have := HK2.out;have := HJ6.out;have := HJ14.out;have := HJ23.out;have := HJ31.out;omega
                            case rel => exact ⟨(y121),(wrap64 (x7_2 - 1)),(by first | rfl | (simp only [IntKind.wrap_i64,wrap64];done) | (simp;done) | (simp [*];done)),H',⟨by have := HK1.out;have := HK2.out;have := HJ6.out;have := HJ14.out;have := HJ23.out;have := HJ31.out;omega⟩,⟨by (with_reducible repeat (first | apply Kd.S_alloc | apply Kd.S_drewN | apply Kd.S_drew));exact HQ56.out⟩,⟨by repeat (first | (with_reducible first | exact HB.out | apply below_alloc | apply pw_below_drewN | apply below_drew1 | refine below_set ?_ GB51.out) | exact HB.out)⟩⟩
                           ·rw [if_neg c50] at H;exact absurd H (by simp)
                          ·rw [if_neg c48] at H;exact absurd H (by simp)
                         ·rw [if_neg c47] at H;have c47b0 : decide ((wrap64 (t112 + (rd (rd_L6 x5_2 (ji41)) (ji44)))) < x8_23) = false := decide_eq_false c47;clear c47
                          by_cases c58 : x6_1 < (x5_2.length : Int)
                          ·rw [if_pos c58] at H;have c58b0 : decide (x6_1 < (x5_2.length : Int)) = true := decide_eq_true c58;clear c58;replace H := Option.bind_eq_some_iff.mp H;obtain ⟨t123,A590,H⟩ := H;replace H : (if x7_2 < ((rd_L6 x5_2 x6_1).length : Int) then (spec_l07Costs.l1 kj31 l0 l1 (x5_2.set (x6_1 : Int).toNat ((rd_L6 x5_2 x6_1).set (x7_2 : Int).toNat t123)) x6_1 (wrap64 (x7_2 - 1))) else (none)) = some r := H;have A59 := Aside0.mk A590;clear A590
                           by_cases c60 : x7_2 < ((rd_L6 x5_2 x6_1).length : Int)
                           ·rw [if_pos c60] at H;have c60b0 : decide (x7_2 < ((rd_L6 x5_2 x6_1).length : Int)) = true := decide_eq_true c60;clear c60;obtain ⟨y124,hy124⟩ : ∃ y_ : List Int,y_ = ((rd_L6 x5_2 x6_1).set (x7_2 : Int).toNat t123) := ⟨_,rfl⟩
                            replace H : (spec_l07Costs.l1 kj31 l0 l1 (x5_2.set (x6_1 : Int).toNat y124) x6_1 (wrap64 (x7_2 - 1))) = some r := by first | (rw [hy124];with_reducible exact H) | (have H2_ := (Option.bind_some _ _).symm.trans H;rw [hy124];with_reducible exact H2_) | (have H2_ := (Option.bind_some _ _).symm.trans H;with_reducible exact H2_) | with_reducible exact H | (rw [hy124];exact H) | exact H
                            have Ny124 := Aside0.mk hy124;clear hy124;obtain ⟨y126,hy126⟩ : ∃ y_ : List (List Int),y_ = (x5_2.set (x6_1 : Int).toNat y124) := ⟨_,rfl⟩
                            replace H : (spec_l07Costs.l1 kj31 l0 l1 y126 x6_1 (wrap64 (x7_2 - 1))) = some r := by first | (rw [hy126];with_reducible exact H) | (have H2_ := (Option.bind_some _ _).symm.trans H;rw [hy126];with_reducible exact H2_) | (have H2_ := (Option.bind_some _ _).symm.trans H;with_reducible exact H2_) | with_reducible exact H | (rw [hy126];exact H) | exact H
                            have Ny126 := Aside0.mk hy126;clear hy126;have H' := Aside0.mk H;clear H;(try go_wp2);have n0_ := Aside0.mk (Kd.S_drew HO_5.out);have n1_ := Aside0.mk (below_drew1 HB.out);clear HO_5;clear HB;have HO_5 := n0_;have HB := n1_;clear n0_ n1_;have p110 : 0 ≤ (x6_1 : Int) := of_decide_eq_true (by first | (with_reducible assumption) | assumption);have q110 : x6_1 < (l0.length : Int) := of_decide_eq_true (by first | (with_reducible assumption) | assumption);obtain ⟨ad110,e110,hx110_0,hx110_1,hx110_2⟩ := at_T73 HR0.out x6_1 p110 q110;have hw110_2 := hx110_2;have hw110_1 := hx110_1;have hw110_0 := hx110_0;cases e110;replace hx110_0 := (HB.out.cell (World.block_lt_of_cell? w _ hx110_0)).trans hx110_0;replace hx110_1 := (HB.out.cell (World.block_lt_of_cell? w _ hx110_1)).trans hx110_1;replace hx110_2 := (HB.out.cell (World.block_lt_of_cell? w _ hx110_2)).trans hx110_2;replace p110 := eq_true p110;replace q110 := eq_true q110;have p111 : 0 ≤ (x7_2 : Int) := of_decide_eq_true (by first | (with_reducible assumption) | assumption);have q111 : x7_2 < (l1.length : Int) := of_decide_eq_true (by first | (with_reducible assumption) | assumption);obtain ⟨ad111,e111,hx111_0,hx111_1,hx111_2⟩ := at_T73 HR1.out x7_2 p111 q111;have hw111_2 := hx111_2;have hw111_1 := hx111_1;have hw111_0 := hx111_0;cases e111;replace hx111_0 := (HB.out.cell (World.block_lt_of_cell? w _ hx111_0)).trans hx111_0;replace hx111_1 := (HB.out.cell (World.block_lt_of_cell? w _ hx111_1)).trans hx111_1;replace hx111_2 := (HB.out.cell (World.block_lt_of_cell? w _ hx111_2)).trans hx111_2;replace p111 := eq_true p111;replace q111 := eq_true q111;refine start_ (n := 10) (S := fun w' => w'.cell? (ad110.add ((x6_1).toNat * 3)) = some (.int .i64 ((rd_T73 l0 x6_1).f0)) ∧ w'.cell? ⟨(ad110.add ((x6_1).toNat * 3)).block,(ad110.add ((x6_1).toNat * 3)).off + 1,none⟩ = some (.int .i64 ((rd_T73 l0 x6_1).f1)) ∧ w'.cell? ⟨(ad110.add ((x6_1).toNat * 3)).block,(ad110.add ((x6_1).toNat * 3)).off + 2,none⟩ = some (.bool ((rd_T73 l0 x6_1).f2)) ∧ w'.cell? (ad111.add ((x7_2).toNat * 3)) = some (.int .i64 ((rd_T73 l1 x7_2).f0)) ∧ w'.cell? ⟨(ad111.add ((x7_2).toNat * 3)).block,(ad111.add ((x7_2).toNat * 3)).off + 1,none⟩ = some (.int .i64 ((rd_T73 l1 x7_2).f1)) ∧ w'.cell? ⟨(ad111.add ((x7_2).toNat * 3)).block,(ad111.add ((x7_2).toNat * 3)).off + 2,none⟩ = some (.bool ((rd_T73 l1 x7_2).f2))) (ds := []) #[false,false,false,false,false,false,false,false,false,false] (by kernel_rfl) rfl rfl ⟨((HB.out.cell (World.block_lt_of_cell? w _ hw110_0)).trans hw110_0),((HB.out.cell (World.block_lt_of_cell? w _ hw110_1)).trans hw110_1),((HB.out.cell (World.block_lt_of_cell? w _ hw110_2)).trans hw110_2),((HB.out.cell (World.block_lt_of_cell? w _ hw111_0)).trans hw111_0),((HB.out.cell (World.block_lt_of_cell? w _ hw111_1)).trans hw111_1),((HB.out.cell (World.block_lt_of_cell? w _ hw111_2)).trans hw111_2)⟩ (fun hHeld => ?_);refine with_tabW spec_l07Costs.tab14 spec_l07Costs.bits14 (fun HT_ HW_ => ?_);generalize wc.drew = w62 at HO_5 HB hx110_0 hx110_1 hx110_2 hx111_0 hx111_1 hx111_2 hHeld ⊢;refine pure_ (i := 0) (N := some 78) (v := ?_) (a' := ?_) #[true,false,false,false,false,false,false,false,false,false] rfl rfl (any_of HT_.out (by kernel_rfl)) (fun _ _ _ h => h) (Or.inl ⟨by rfl,?_⟩) ?_ ?_;rotate_left
                            ·intro w';go_simp;with_reducible rfl
                            rotate_left
                            ·simp only [Act.put,List.setIfInBounds_toArray,List.set_cons_zero,List.set_cons_succ,i64_w,i32_w];rfl
                            refine pure_ (i := 1) (N := some 79) (v := ?_) (a' := ?_) #[true,true,false,false,false,false,false,false,false,false] rfl rfl (any_of HT_.out (by kernel_rfl)) (fun _ _ _ h => h) (Or.inl ⟨by rfl,?_⟩) ?_ ?_;rotate_left
                            ·intro w';go_simp;with_reducible rfl
                            rotate_left
                            ·simp only [Act.put,List.setIfInBounds_toArray,List.set_cons_zero,List.set_cons_succ,i64_w,i32_w];rfl
                            refine pure_ (i := 2) (N := some 80) (v := ?_) (a' := ?_) #[true,true,true,false,false,false,false,false,false,false] rfl rfl (any_of HT_.out (by kernel_rfl)) (fun _ _ _ h => h) (Or.inl ⟨by rfl,?_⟩) ?_ ?_;rotate_left
                            ·intro w';go_simp;with_reducible rfl
                            rotate_left
                            ·simp only [Act.put,List.setIfInBounds_toArray,List.set_cons_zero,List.set_cons_succ,i64_w,i32_w];rfl
                            refine pure_ (i := 4) (N := some 82) (v := ?_) (a' := ?_) #[true,true,true,false,true,false,false,false,false,false] rfl rfl (any_of HT_.out (by kernel_rfl)) (fun _ _ _ h => h) (Or.inl ⟨by rfl,?_⟩) ?_ ?_;rotate_left
                            ·intro w';go_simp;with_reducible rfl
                            rotate_left
                            ·simp only [Act.put,List.setIfInBounds_toArray,List.set_cons_zero,List.set_cons_succ,i64_w,i32_w];rfl
                            refine pure_ (i := 5) (N := some 83) (v := ?_) (a' := ?_) #[true,true,true,false,true,true,false,false,false,false] rfl rfl (any_of HT_.out (by kernel_rfl)) (fun _ _ _ h => h) (Or.inl ⟨by rfl,?_⟩) ?_ ?_;rotate_left
                            ·intro w';go_simp;with_reducible rfl
                            rotate_left
                            ·simp only [Act.put,List.setIfInBounds_toArray,List.set_cons_zero,List.set_cons_succ,i64_w,i32_w];rfl
                            refine pure_ (i := 6) (N := some 84) (v := ?_) (a' := ?_) #[true,true,true,false,true,true,true,false,false,false] rfl rfl (any_of HT_.out (by kernel_rfl)) (fun _ _ _ h => h) (Or.inl ⟨by rfl,?_⟩) ?_ ?_;rotate_left
                            ·intro w';go_simp;with_reducible rfl
                            rotate_left
                            ·simp only [Act.put,List.setIfInBounds_toArray,List.set_cons_zero,List.set_cons_succ,i64_w,i32_w];rfl
                            refine take_ (i := 3) (N := some 81) (v := ?_) (a' := ?_) #[true,true,true,true,true,true,true,false,false,false] rfl rfl (take_ofW HT_.out HW_.out (by kernel_rfl)) (fun _ _ _ h => h) (Or.inl ⟨by rfl,?_⟩) hHeld ?_ ?_;rotate_left
                            ·rintro w' ⟨s0,s1,s2,s3,s4,s5⟩
                             go_simp;with_reducible rfl
                            rotate_left
                            ·simp only [Act.put,List.setIfInBounds_toArray,List.set_cons_zero,List.set_cons_succ,i64_w,i32_w];rfl
                            refine take_ (i := 7) (N := some 85) (v := ?_) (a' := ?_) #[true,true,true,true,true,true,true,true,false,false] rfl rfl (take_ofW HT_.out HW_.out (by kernel_rfl)) (fun _ _ _ h => h) (Or.inl ⟨by rfl,?_⟩) hHeld ?_ ?_;rotate_left
                            ·rintro w' ⟨s0,s1,s2,s3,s4,s5⟩
                             go_simp;with_reducible rfl
                            rotate_left
                            ·simp only [Act.put,List.setIfInBounds_toArray,List.set_cons_zero,List.set_cons_succ,i64_w,i32_w];rfl
                            refine one_ (i := 8) (N := some 86) #[true,true,true,true,true,true,true,true,true,false] rfl rfl (one_of HT_.out (by kernel_rfl)) (by decide) (fun K hK => ?_);refine goes_ Try.func95 (by kernel_rfl) rfl #[.agg #[.int .i64 ((rd_T73 l0 x6_1).f0),.int .i64 ((rd_T73 l0 x6_1).f1),.bool ((rd_T73 l0 x6_1).f2)],.agg #[.int .i64 ((rd_T73 l1 x7_2).f0),.int .i64 ((rd_T73 l1 x7_2).f1),.bool ((rd_T73 l1 x7_2).f2)]] (by rfl) rfl rfl (by (try simp only [List.map_toArray,List.map_cons,List.map_nil]);first | done | rfl | (simp only [List.length_drop,List.length_take];rfl)) ?_
                            with_reducible refine (spec_l07Cost.calls ((rd_T73 l0 x6_1).f0) ((rd_T73 l0 x6_1).f1) ((rd_T73 l0 x6_1).f2) ((rd_T73 l1 x7_2).f0) ((rd_T73 l1 x7_2).f1) ((rd_T73 l1 x7_2).f2) t112 _ A39.out).mono ?_
                            rintro e w63 ⟨rfl,hb⟩
                            refine ⟨_,rfl,?_⟩;have n0_ := Aside0.mk (Kd.S_below (by (with_reducible repeat (first | apply Kd.S_alloc | apply Kd.S_drewN | apply Kd.S_drew));exact HO_5.out) hb);have n1_ := Aside0.mk (below_step (by repeat (first | (with_reducible first | exact HB.out | apply below_alloc | apply pw_below_drewN | apply below_drew1) | exact HB.out)) hb);clear HO_5;clear HB;have HO_5 := n0_;have HB := n1_;clear n0_ n1_;(try clear hb);(try clear hb2);(try clear hk);(try clear hi);refine hK.out _ _ ⟨((HB.out.cell (World.block_lt_of_cell? w _ hw110_0)).trans hw110_0),((HB.out.cell (World.block_lt_of_cell? w _ hw110_1)).trans hw110_1),((HB.out.cell (World.block_lt_of_cell? w _ hw110_2)).trans hw110_2),((HB.out.cell (World.block_lt_of_cell? w _ hw111_0)).trans hw111_0),((HB.out.cell (World.block_lt_of_cell? w _ hw111_1)).trans hw111_1),((HB.out.cell (World.block_lt_of_cell? w _ hw111_2)).trans hw111_2)⟩ (fun hHeld => ?_);clear hK K;refine norm_ (a' := ?_) ?_ ?_;rotate_left
                            ·show Act.put _ (some 86) _ = _
                             simp only [Act.put,List.setIfInBounds_toArray,List.set_cons_zero,List.set_cons_succ,i64_w,i32_w];rfl
                            refine pure_ (i := 9) (N := some 9) (v := ?_) (a' := ?_) #[true,true,true,true,true,true,true,true,true,true] rfl rfl (any_of HT_.out (by kernel_rfl)) (fun _ _ _ h => h) (Or.inl ⟨by rfl,?_⟩) ?_ ?_;rotate_left
                            ·intro w';go_simp;with_reducible rfl
                            rotate_left
                            ·simp only [Act.put,List.setIfInBounds_toArray,List.set_cons_zero,List.set_cons_succ,i64_w,i32_w];rfl
                            refine done_ (done_of HT_.out (by kernel_rfl)) ?_;obtain ⟨Ao64,co64,eo64⟩ := Kd.S_slice HO_5.out;subst eo64;have p113 : 0 ≤ ((ji41) : Int) := of_decide_eq_true (by first | (with_reducible assumption) | assumption);have q113 : (ji41) < (x5_2.length : Int) := of_decide_eq_true (by first | (with_reducible assumption) | assumption);obtain ⟨ad113,A113_0,c113_0,e113,hx113_0,hl113_0,hi113_0⟩ := at_L6 (Kd.S_reads' HO_5.out).2.2 (ji41) p113 q113;cases e113;obtain ⟨ce113,hce113,hMe113,hcc113⟩ := Kd.S_get HO_5.out [] (ji41) p113 (by first | exact q113 | exact of_decide_eq_true (by first | (with_reducible assumption) | assumption) | (have e_ := (Kd.S_reads' HO_5.out).1;omega));obtain ⟨ve113_0,rfl,ge113_0⟩ := hMe113;have hv113_0 := hcc113 0 _ rfl;rw [Nat.add_zero,show ((Kd.slice 2 (Kd.int .i64))).sz = 1 from rfl,Nat.mul_one] at hv113_0;replace hv113_0 := Option.some.inj (hv113_0.symm.trans hx113_0);rw [hv113_0] at ge113_0;have HL113_0 := Aside0.mk (show Kd.R (Kd.int .i64) 2 _ _ _ _ (rd_L6 x5_2 (ji41)) from ge113_0);clear hv113_0 ge113_0;have HX113_0 := Aside0.mk hx113_0;clear hcc113 hce113;have HR113_0 := Aside0.mk hi113_0;have HC113_0 := Aside0.mk hl113_0;clear hi113_0 hl113_0;replace p113 := eq_true p113;replace q113 := eq_true q113;have p114 : 0 ≤ ((ji44) : Int) := of_decide_eq_true (by first | (with_reducible assumption) | assumption);have q114 : (ji44) < ((rd_L6 x5_2 (ji41)).length : Int) := of_decide_eq_true (by first | (with_reducible assumption) | assumption);obtain ⟨ad114,e114,hx114_0⟩ := Kd.at_int (by repeat (first | (with_reducible exact HR113_0.out) | (with_reducible refine Kd.C_alloc ?_ _) | (with_reducible refine Kd.C_drewN ?_ _) | (with_reducible refine Kd.C_drew ?_) | exact HR113_0.out)) (ji44) p114 q114;cases e114;replace p114 := eq_true p114;replace q114 := eq_true q114;(try go_wp2);have n0_ := Aside0.mk (Kd.S_drew HO_5.out);have n1_ := Aside0.mk (Kd.R_drew HL113_0.out);have n2_ := Aside0.mk (Kd.C_drew HR113_0.out);have n3_ := Aside0.mk (below_drew1 HB.out);clear HO_5;clear HL113_0;clear HR113_0;clear HB;have HO_5 := n0_;have HL113_0 := n1_;have HR113_0 := n2_;have HB := n3_;clear n0_ n1_ n2_ n3_;have p122 : 0 ≤ (x6_1 : Int) := of_decide_eq_true (by first | (with_reducible assumption) | assumption);have q122 : x6_1 < (x5_2.length : Int) := of_decide_eq_true (by first | (with_reducible assumption) | assumption);obtain ⟨ad122,A122_0,c122_0,e122,hx122_0,hl122_0,hi122_0⟩ := at_L6 (Kd.S_reads' HO_5.out).2.2 x6_1 p122 q122;obtain rfl : ad113 = ad122 := (by injection e122);obtain ⟨ce122,hce122,hMe122,hcc122⟩ := Kd.S_get HO_5.out [] x6_1 p122 (by first | exact q122 | exact of_decide_eq_true (by first | (with_reducible assumption) | assumption) | (have e_ := (Kd.S_reads' HO_5.out).1;omega));obtain ⟨ve122_0,rfl,ge122_0⟩ := hMe122;have hv122_0 := hcc122 0 _ rfl;rw [Nat.add_zero,show ((Kd.slice 2 (Kd.int .i64))).sz = 1 from rfl,Nat.mul_one] at hv122_0;replace hv122_0 := Option.some.inj (hv122_0.symm.trans hx122_0);rw [hv122_0] at ge122_0;have HL122_0 := Aside0.mk (show Kd.R (Kd.int .i64) 2 _ _ _ _ (rd_L6 x5_2 x6_1) from ge122_0);clear hv122_0 ge122_0;have HX122_0 := Aside0.mk hx122_0;clear hcc122 hce122;have HR122_0 := Aside0.mk hi122_0;have HC122_0 := Aside0.mk hl122_0;clear hi122_0 hl122_0;replace p122 := eq_true p122;replace q122 := eq_true q122;refine start_ (n := 9) (S := fun w' => w'.cell? (ad113.add (x6_1).toNat) = some (.slice A122_0 (rd_L6 x5_2 x6_1).length c122_0)) (ds := [8]) #[false,false,false,false,false,false,false,false,false] (by kernel_rfl) rfl rfl (hx122_0) (fun hHeld => ?_);refine with_tabW spec_l07Costs.tab17 spec_l07Costs.bits17 (fun HT_ HW_ => ?_);generalize w63.drew = w65 at HO_5 HL113_0 HR113_0 HB HL122_0 HR122_0 HX122_0 hx122_0 hHeld ⊢;refine pure_ (i := 0) (N := some 115) (v := ?_) (a' := ?_) #[true,false,false,false,false,false,false,false,false] rfl rfl (any_of HT_.out (by kernel_rfl)) (fun _ _ _ h => h) (Or.inl ⟨by rfl,?_⟩) ?_ ?_;rotate_left
                            ·intro w';go_simp;with_reducible rfl
                            rotate_left
                            ·simp only [Act.put,List.setIfInBounds_toArray,List.set_cons_zero,List.set_cons_succ,i64_w,i32_w];rfl
                            refine pure_ (i := 1) (N := some 116) (v := ?_) (a' := ?_) #[true,true,false,false,false,false,false,false,false] rfl rfl (any_of HT_.out (by kernel_rfl)) (fun _ _ _ h => h) (Or.inl ⟨by rfl,?_⟩) ?_ ?_;rotate_left
                            ·intro w';go_simp;with_reducible rfl
                            rotate_left
                            ·simp only [Act.put,List.setIfInBounds_toArray,List.set_cons_zero,List.set_cons_succ,i64_w,i32_w];rfl
                            refine pure_ (i := 2) (N := some 117) (v := ?_) (a' := ?_) #[true,true,true,false,false,false,false,false,false] rfl rfl (any_of HT_.out (by kernel_rfl)) (fun _ _ _ h => h) (Or.inl ⟨by rfl,?_⟩) ?_ ?_;rotate_left
                            ·intro w';go_simp;with_reducible rfl
                            rotate_left
                            ·simp only [Act.put,List.setIfInBounds_toArray,List.set_cons_zero,List.set_cons_succ,i64_w,i32_w];rfl
                            refine pure_ (i := 4) (N := some 119) (v := ?_) (a' := ?_) #[true,true,true,false,true,false,false,false,false] rfl rfl (any_of HT_.out (by kernel_rfl)) (fun _ _ _ h => h) (Or.inl ⟨by rfl,?_⟩) ?_ ?_;rotate_left
                            ·intro w';go_simp;with_reducible rfl
                            rotate_left
                            ·simp only [Act.put,List.setIfInBounds_toArray,List.set_cons_zero,List.set_cons_succ,i64_w,i32_w];rfl
                            refine pure_ (i := 5) (N := some 120) (v := ?_) (a' := ?_) #[true,true,true,false,true,true,false,false,false] rfl rfl (any_of HT_.out (by kernel_rfl)) (fun _ _ _ h => h) (Or.inl ⟨by rfl,?_⟩) ?_ ?_;rotate_left
                            ·intro w';go_simp;with_reducible rfl
                            rotate_left
                            ·simp only [Act.put,List.setIfInBounds_toArray,List.set_cons_zero,List.set_cons_succ,i64_w,i32_w];rfl
                            refine take_ (i := 3) (N := some 118) (v := ?_) (a' := ?_) #[true,true,true,true,true,true,false,false,false] rfl rfl (take_ofW HT_.out HW_.out (by kernel_rfl)) (fun _ _ _ h => h) (Or.inl ⟨by rfl,?_⟩) hHeld ?_ ?_;rotate_left
                            ·intro w' s0;go_simp;with_reducible rfl
                            rotate_left
                            ·simp only [Act.put,List.setIfInBounds_toArray,List.set_cons_zero,List.set_cons_succ,i64_w,i32_w];rfl
                            refine one_ (i := 6) (N := some 121) #[true,true,true,true,true,true,true,false,false] rfl rfl (one_of HT_.out (by kernel_rfl)) (by decide) (fun K hK => ?_);refine goes_ Try.func107 (by kernel_rfl) rfl #[.int .i64 x8_23,.int .i64 0] (by rfl) rfl rfl (by (try simp only [List.map_toArray,List.map_cons,List.map_nil]);first | done | rfl | (simp only [List.length_drop,List.length_take];rfl)) ?_
                            with_reducible refine (spec_l00Max.calls x8_23 0 t123 _ A59.out).mono ?_
                            rintro e w' ⟨rfl,⟨nd,rfl⟩⟩
                            refine ⟨_,rfl,?_⟩;have p61 : 0 ≤ (x7_2 : Int) := of_decide_eq_true (by first | (with_reducible assumption) | assumption);have q61 : (x7_2 : Int) < (((rd_L6 x5_2 x6_1).length : Int) : Int) := of_decide_eq_true (by first | (with_reducible assumption) | assumption);obtain ⟨go61,co61,eo61,gb61,gl61,cl61,HG61⟩ := Kd.R_form HL122_0.out (by omega);(first | cases eo61 | (injection eo61 with ea_ en_ ec_;(first | subst ea_ | (injection ea_ with ea_;subst ea_));subst ec_;clear en_));have GB61 := Aside0.mk gb61;have GG61 := Aside0.mk HG61;clear gb61 gl61 HG61;obtain ⟨hx61_0,hf61_0⟩ := Kd.R_celln 0 HL122_0.out (x7_2 : Int) p61 q61;replace p61 := eq_true p61;replace q61 := eq_true q61;have hq66 : (x6_1 : Int) < (x5_2.length : Int) := (by have h_ : (x6_1 : Int) < ((x5_2.length : Int) : Int) := of_decide_eq_true (by first | (with_reducible assumption) | assumption);first | exact h_ | (have e_ := (Kd.S_reads' HO_5.out).1;omega) | simpa only [List.length_set,List.length_set] using h_);obtain ⟨oki66,ce66,hcl66,hM66,hcc66,hok66,hbk66⟩ := Kd.S_borrow HO_5.out [] (x6_1 : Int) (of_decide_eq_true (by first | (with_reducible assumption) | assumption)) hq66;obtain ⟨ve66_0,rfl,ge66_0⟩ := hM66;have hv66 := hcc66 0 _ rfl;rw [Nat.add_zero,show ((Kd.slice 2 (Kd.int .i64))).sz = 1 from rfl,Nat.mul_one] at hv66;replace hv66 := Option.some.inj (hv66.symm.trans HX122_0.out);subst hv66;clear hcc66 hcl66;replace ge66_0 := (show Kd.R (Kd.int .i64) 2 _ _ _ _ (rd_L6 x5_2 x6_1) from ge66_0);have HP66 := Kd.R_putg ge66_0 (x7_2 : Int) t123;rw [← Ny124.out] at HP66;have HS66 := hbk66 HP66.2 (fun k_ e_ => by injection e_ with e_;subst e_;exact ge66_0.1 _ rfl) (x' := y124) (Kd.M_row HP66.1);rw [← Ny126.out] at HS66;have HQ66 := Aside0.mk HS66;clear HP66 HS66 hbk66 hok66;refine hK.out _ _ (hHeld) (fun hHeld => ?_);clear hK K;refine norm_ (a' := ?_) ?_ ?_;rotate_left
                            ·show Act.put _ (some 121) _ = _
                             simp only [Act.put,List.setIfInBounds_toArray,List.set_cons_zero,List.set_cons_succ,i64_w,i32_w];rfl
                            refine pure_ (i := 7) (N := some 122) (v := ?_) (a' := ?_) #[true,true,true,true,true,true,true,true,false] rfl rfl (any_of HT_.out (by kernel_rfl)) (fun _ _ _ h => h) (Or.inl ⟨by rfl,?_⟩) ?_ ?_;rotate_left
                            ·intro w';go_simp;with_reducible rfl
                            rotate_left
                            ·simp only [Act.put,List.setIfInBounds_toArray,List.set_cons_zero,List.set_cons_succ,i64_w,i32_w];rfl
                            refine last_ (i := 8) (N := none) #[true,true,true,true,true,true,true,true,true] rfl rfl (one_of HT_.out (by kernel_rfl)) (by decide) (fun K hK => ?_);refine skip_ (w1 := ?_) (by rfl) rfl ?_ ?_;rotate_left
                            ·go_simp;rfl
                            refine hK.out _ _ ?_;clear hK K;refine done_ (done_of HT_.out (by kernel_rfl)) ?_;(try go_wp2)
                            go_roundg kj31
                            case measure => have := HK1.out;have := HK2.out;have := HJ6.out;have := HJ14.out;have := HJ23.out;have := HJ31.out;omega
                            case rel => exact ⟨(y126),(wrap64 (x7_2 - 1)),(by first | rfl | (simp only [IntKind.wrap_i64,wrap64];done) | (simp;done) | (simp [*];done)),H',⟨by have := HK1.out;have := HK2.out;have := HJ6.out;have := HJ14.out;have := HJ23.out;have := HJ31.out;omega⟩,⟨by (with_reducible repeat (first | apply Kd.S_alloc | apply Kd.S_drewN | apply Kd.S_drew));exact HQ66.out⟩,⟨by repeat (first | (with_reducible first | exact HB.out | apply below_alloc | apply pw_below_drewN | apply below_drew1 | refine below_set ?_ GB61.out) | exact HB.out)⟩⟩
                           ·rw [if_neg c60] at H;exact absurd H (by simp)
                          ·rw [if_neg c58] at H;exact absurd H (by simp)
                        ·rw [if_neg c46] at H;exact absurd H (by simp)
                       ·rw [if_neg c45] at H;exact absurd H (by simp)
                      ·rw [if_neg c43] at H;exact absurd H (by simp)
                     ·rw [if_neg c42] at H;exact absurd H (by simp)
                    ·rw [if_neg c40] at H;have c40b0 : decide (0 ≤ t112) = false := decide_eq_false c40;clear c40
                     by_cases c68 : x6_1 < (x5_2.length : Int)
                     ·rw [if_pos c68] at H;have c68b0 : decide (x6_1 < (x5_2.length : Int)) = true := decide_eq_true c68;clear c68;replace H := Option.bind_eq_some_iff.mp H;obtain ⟨t128,A690,H⟩ := H;replace H : (if x7_2 < ((rd_L6 x5_2 x6_1).length : Int) then (spec_l07Costs.l1 kj31 l0 l1 (x5_2.set (x6_1 : Int).toNat ((rd_L6 x5_2 x6_1).set (x7_2 : Int).toNat t128)) x6_1 (wrap64 (x7_2 - 1))) else (none)) = some r := H;have A69 := Aside0.mk A690;clear A690
                      by_cases c70 : x7_2 < ((rd_L6 x5_2 x6_1).length : Int)
                      ·rw [if_pos c70] at H;have c70b0 : decide (x7_2 < ((rd_L6 x5_2 x6_1).length : Int)) = true := decide_eq_true c70;clear c70;obtain ⟨y129,hy129⟩ : ∃ y_ : List Int,y_ = ((rd_L6 x5_2 x6_1).set (x7_2 : Int).toNat t128) := ⟨_,rfl⟩
                       replace H : (spec_l07Costs.l1 kj31 l0 l1 (x5_2.set (x6_1 : Int).toNat y129) x6_1 (wrap64 (x7_2 - 1))) = some r := by first | (rw [hy129];with_reducible exact H) | (have H2_ := (Option.bind_some _ _).symm.trans H;rw [hy129];with_reducible exact H2_) | (have H2_ := (Option.bind_some _ _).symm.trans H;with_reducible exact H2_) | with_reducible exact H | (rw [hy129];exact H) | exact H
                       have Ny129 := Aside0.mk hy129;clear hy129;obtain ⟨y131,hy131⟩ : ∃ y_ : List (List Int),y_ = (x5_2.set (x6_1 : Int).toNat y129) := ⟨_,rfl⟩
                       replace H : (spec_l07Costs.l1 kj31 l0 l1 y131 x6_1 (wrap64 (x7_2 - 1))) = some r := by first | (rw [hy131];with_reducible exact H) | (have H2_ := (Option.bind_some _ _).symm.trans H;rw [hy131];with_reducible exact H2_) | (have H2_ := (Option.bind_some _ _).symm.trans H;with_reducible exact H2_) | with_reducible exact H | (rw [hy131];exact H) | exact H
                       have Ny131 := Aside0.mk hy131;clear hy131;have H' := Aside0.mk H;clear H;(try go_wp2);have n0_ := Aside0.mk (Kd.S_drew HO_5.out);have n1_ := Aside0.mk (below_drew1 HB.out);clear HO_5;clear HB;have HO_5 := n0_;have HB := n1_;clear n0_ n1_;have p110 : 0 ≤ (x6_1 : Int) := of_decide_eq_true (by first | (with_reducible assumption) | assumption);have q110 : x6_1 < (l0.length : Int) := of_decide_eq_true (by first | (with_reducible assumption) | assumption);obtain ⟨ad110,e110,hx110_0,hx110_1,hx110_2⟩ := at_T73 HR0.out x6_1 p110 q110;have hw110_2 := hx110_2;have hw110_1 := hx110_1;have hw110_0 := hx110_0;cases e110;replace hx110_0 := (HB.out.cell (World.block_lt_of_cell? w _ hx110_0)).trans hx110_0;replace hx110_1 := (HB.out.cell (World.block_lt_of_cell? w _ hx110_1)).trans hx110_1;replace hx110_2 := (HB.out.cell (World.block_lt_of_cell? w _ hx110_2)).trans hx110_2;replace p110 := eq_true p110;replace q110 := eq_true q110;have p111 : 0 ≤ (x7_2 : Int) := of_decide_eq_true (by first | (with_reducible assumption) | assumption);have q111 : x7_2 < (l1.length : Int) := of_decide_eq_true (by first | (with_reducible assumption) | assumption);obtain ⟨ad111,e111,hx111_0,hx111_1,hx111_2⟩ := at_T73 HR1.out x7_2 p111 q111;have hw111_2 := hx111_2;have hw111_1 := hx111_1;have hw111_0 := hx111_0;cases e111;replace hx111_0 := (HB.out.cell (World.block_lt_of_cell? w _ hx111_0)).trans hx111_0;replace hx111_1 := (HB.out.cell (World.block_lt_of_cell? w _ hx111_1)).trans hx111_1;replace hx111_2 := (HB.out.cell (World.block_lt_of_cell? w _ hx111_2)).trans hx111_2;replace p111 := eq_true p111;replace q111 := eq_true q111;refine start_ (n := 10) (S := fun w' => w'.cell? (ad110.add ((x6_1).toNat * 3)) = some (.int .i64 ((rd_T73 l0 x6_1).f0)) ∧ w'.cell? ⟨(ad110.add ((x6_1).toNat * 3)).block,(ad110.add ((x6_1).toNat * 3)).off + 1,none⟩ = some (.int .i64 ((rd_T73 l0 x6_1).f1)) ∧ w'.cell? ⟨(ad110.add ((x6_1).toNat * 3)).block,(ad110.add ((x6_1).toNat * 3)).off + 2,none⟩ = some (.bool ((rd_T73 l0 x6_1).f2)) ∧ w'.cell? (ad111.add ((x7_2).toNat * 3)) = some (.int .i64 ((rd_T73 l1 x7_2).f0)) ∧ w'.cell? ⟨(ad111.add ((x7_2).toNat * 3)).block,(ad111.add ((x7_2).toNat * 3)).off + 1,none⟩ = some (.int .i64 ((rd_T73 l1 x7_2).f1)) ∧ w'.cell? ⟨(ad111.add ((x7_2).toNat * 3)).block,(ad111.add ((x7_2).toNat * 3)).off + 2,none⟩ = some (.bool ((rd_T73 l1 x7_2).f2))) (ds := []) #[false,false,false,false,false,false,false,false,false,false] (by kernel_rfl) rfl rfl ⟨((HB.out.cell (World.block_lt_of_cell? w _ hw110_0)).trans hw110_0),((HB.out.cell (World.block_lt_of_cell? w _ hw110_1)).trans hw110_1),((HB.out.cell (World.block_lt_of_cell? w _ hw110_2)).trans hw110_2),((HB.out.cell (World.block_lt_of_cell? w _ hw111_0)).trans hw111_0),((HB.out.cell (World.block_lt_of_cell? w _ hw111_1)).trans hw111_1),((HB.out.cell (World.block_lt_of_cell? w _ hw111_2)).trans hw111_2)⟩ (fun hHeld => ?_);refine with_tabW spec_l07Costs.tab14 spec_l07Costs.bits14 (fun HT_ HW_ => ?_);generalize wc.drew = w72 at HO_5 HB hx110_0 hx110_1 hx110_2 hx111_0 hx111_1 hx111_2 hHeld ⊢;refine pure_ (i := 0) (N := some 78) (v := ?_) (a' := ?_) #[true,false,false,false,false,false,false,false,false,false] rfl rfl (any_of HT_.out (by kernel_rfl)) (fun _ _ _ h => h) (Or.inl ⟨by rfl,?_⟩) ?_ ?_;rotate_left
                       ·intro w';go_simp;with_reducible rfl
                       rotate_left
                       ·simp only [Act.put,List.setIfInBounds_toArray,List.set_cons_zero,List.set_cons_succ,i64_w,i32_w];rfl
                       refine pure_ (i := 1) (N := some 79) (v := ?_) (a' := ?_) #[true,true,false,false,false,false,false,false,false,false] rfl rfl (any_of HT_.out (by kernel_rfl)) (fun _ _ _ h => h) (Or.inl ⟨by rfl,?_⟩) ?_ ?_;rotate_left
                       ·intro w';go_simp;with_reducible rfl
                       rotate_left
                       ·simp only [Act.put,List.setIfInBounds_toArray,List.set_cons_zero,List.set_cons_succ,i64_w,i32_w];rfl
                       refine pure_ (i := 2) (N := some 80) (v := ?_) (a' := ?_) #[true,true,true,false,false,false,false,false,false,false] rfl rfl (any_of HT_.out (by kernel_rfl)) (fun _ _ _ h => h) (Or.inl ⟨by rfl,?_⟩) ?_ ?_;rotate_left
                       ·intro w';go_simp;with_reducible rfl
                       rotate_left
                       ·simp only [Act.put,List.setIfInBounds_toArray,List.set_cons_zero,List.set_cons_succ,i64_w,i32_w];rfl
                       refine pure_ (i := 4) (N := some 82) (v := ?_) (a' := ?_) #[true,true,true,false,true,false,false,false,false,false] rfl rfl (any_of HT_.out (by kernel_rfl)) (fun _ _ _ h => h) (Or.inl ⟨by rfl,?_⟩) ?_ ?_;rotate_left
                       ·intro w';go_simp;with_reducible rfl
                       rotate_left
                       ·simp only [Act.put,List.setIfInBounds_toArray,List.set_cons_zero,List.set_cons_succ,i64_w,i32_w];rfl
                       refine pure_ (i := 5) (N := some 83) (v := ?_) (a' := ?_) #[true,true,true,false,true,true,false,false,false,false] rfl rfl (any_of HT_.out (by kernel_rfl)) (fun _ _ _ h => h) (Or.inl ⟨by rfl,?_⟩) ?_ ?_;rotate_left
                       ·intro w';go_simp;with_reducible rfl
                       rotate_left
                       ·simp only [Act.put,List.setIfInBounds_toArray,List.set_cons_zero,List.set_cons_succ,i64_w,i32_w];rfl
                       refine pure_ (i := 6) (N := some 84) (v := ?_) (a' := ?_) #[true,true,true,false,true,true,true,false,false,false] rfl rfl (any_of HT_.out (by kernel_rfl)) (fun _ _ _ h => h) (Or.inl ⟨by rfl,?_⟩) ?_ ?_;rotate_left
                       ·intro w';go_simp;with_reducible rfl
                       rotate_left
                       ·simp only [Act.put,List.setIfInBounds_toArray,List.set_cons_zero,List.set_cons_succ,i64_w,i32_w];rfl
                       refine take_ (i := 3) (N := some 81) (v := ?_) (a' := ?_) #[true,true,true,true,true,true,true,false,false,false] rfl rfl (take_ofW HT_.out HW_.out (by kernel_rfl)) (fun _ _ _ h => h) (Or.inl ⟨by rfl,?_⟩) hHeld ?_ ?_;rotate_left
                       ·rintro w' ⟨s0,s1,s2,s3,s4,s5⟩
                        go_simp;with_reducible rfl
                       rotate_left
                       ·simp only [Act.put,List.setIfInBounds_toArray,List.set_cons_zero,List.set_cons_succ,i64_w,i32_w];rfl
                       refine take_ (i := 7) (N := some 85) (v := ?_) (a' := ?_) #[true,true,true,true,true,true,true,true,false,false] rfl rfl (take_ofW HT_.out HW_.out (by kernel_rfl)) (fun _ _ _ h => h) (Or.inl ⟨by rfl,?_⟩) hHeld ?_ ?_;rotate_left
                       ·rintro w' ⟨s0,s1,s2,s3,s4,s5⟩
                        go_simp;with_reducible rfl
                       rotate_left
                       ·simp only [Act.put,List.setIfInBounds_toArray,List.set_cons_zero,List.set_cons_succ,i64_w,i32_w];rfl
                       refine one_ (i := 8) (N := some 86) #[true,true,true,true,true,true,true,true,true,false] rfl rfl (one_of HT_.out (by kernel_rfl)) (by decide) (fun K hK => ?_);refine goes_ Try.func95 (by kernel_rfl) rfl #[.agg #[.int .i64 ((rd_T73 l0 x6_1).f0),.int .i64 ((rd_T73 l0 x6_1).f1),.bool ((rd_T73 l0 x6_1).f2)],.agg #[.int .i64 ((rd_T73 l1 x7_2).f0),.int .i64 ((rd_T73 l1 x7_2).f1),.bool ((rd_T73 l1 x7_2).f2)]] (by rfl) rfl rfl (by (try simp only [List.map_toArray,List.map_cons,List.map_nil]);first | done | rfl | (simp only [List.length_drop,List.length_take];rfl)) ?_
                       with_reducible refine (spec_l07Cost.calls ((rd_T73 l0 x6_1).f0) ((rd_T73 l0 x6_1).f1) ((rd_T73 l0 x6_1).f2) ((rd_T73 l1 x7_2).f0) ((rd_T73 l1 x7_2).f1) ((rd_T73 l1 x7_2).f2) t112 _ A39.out).mono ?_
                       rintro e w73 ⟨rfl,hb⟩
                       refine ⟨_,rfl,?_⟩;have n0_ := Aside0.mk (Kd.S_below (by (with_reducible repeat (first | apply Kd.S_alloc | apply Kd.S_drewN | apply Kd.S_drew));exact HO_5.out) hb);have n1_ := Aside0.mk (below_step (by repeat (first | (with_reducible first | exact HB.out | apply below_alloc | apply pw_below_drewN | apply below_drew1) | exact HB.out)) hb);clear HO_5;clear HB;have HO_5 := n0_;have HB := n1_;clear n0_ n1_;(try clear hb);(try clear hb2);(try clear hk);(try clear hi);refine hK.out _ _ ⟨((HB.out.cell (World.block_lt_of_cell? w _ hw110_0)).trans hw110_0),((HB.out.cell (World.block_lt_of_cell? w _ hw110_1)).trans hw110_1),((HB.out.cell (World.block_lt_of_cell? w _ hw110_2)).trans hw110_2),((HB.out.cell (World.block_lt_of_cell? w _ hw111_0)).trans hw111_0),((HB.out.cell (World.block_lt_of_cell? w _ hw111_1)).trans hw111_1),((HB.out.cell (World.block_lt_of_cell? w _ hw111_2)).trans hw111_2)⟩ (fun hHeld => ?_);clear hK K;refine norm_ (a' := ?_) ?_ ?_;rotate_left
                       ·show Act.put _ (some 86) _ = _
                        simp only [Act.put,List.setIfInBounds_toArray,List.set_cons_zero,List.set_cons_succ,i64_w,i32_w];rfl
                       refine pure_ (i := 9) (N := some 9) (v := ?_) (a' := ?_) #[true,true,true,true,true,true,true,true,true,true] rfl rfl (any_of HT_.out (by kernel_rfl)) (fun _ _ _ h => h) (Or.inl ⟨by rfl,?_⟩) ?_ ?_;rotate_left
                       ·intro w';go_simp;with_reducible rfl
                       rotate_left
                       ·simp only [Act.put,List.setIfInBounds_toArray,List.set_cons_zero,List.set_cons_succ,i64_w,i32_w];rfl
                       refine done_ (done_of HT_.out (by kernel_rfl)) ?_;(try go_wp2);have n0_ := Aside0.mk (Kd.S_drew HO_5.out);have n1_ := Aside0.mk (below_drew1 HB.out);clear HO_5;clear HB;have HO_5 := n0_;have HB := n1_;clear n0_ n1_;obtain ⟨Ao75,co75,eo75⟩ := Kd.S_slice HO_5.out;(first | subst eo75 | (injection eo75 with f1_ f2_ f3_;have f4_ := f1_.symm;have f5_ := f3_.symm;clear f1_ f2_ f3_;subst f4_;subst f5_));have p127 : 0 ≤ (x6_1 : Int) := of_decide_eq_true (by first | (with_reducible assumption) | assumption);have q127 : x6_1 < (x5_2.length : Int) := of_decide_eq_true (by first | (with_reducible assumption) | assumption);obtain ⟨ad127,A127_0,c127_0,e127,hx127_0,hl127_0,hi127_0⟩ := at_L6 (Kd.S_reads' HO_5.out).2.2 x6_1 p127 q127;cases e127;obtain ⟨ce127,hce127,hMe127,hcc127⟩ := Kd.S_get HO_5.out [] x6_1 p127 (by first | exact q127 | exact of_decide_eq_true (by first | (with_reducible assumption) | assumption) | (have e_ := (Kd.S_reads' HO_5.out).1;omega));obtain ⟨ve127_0,rfl,ge127_0⟩ := hMe127;have hv127_0 := hcc127 0 _ rfl;rw [Nat.add_zero,show ((Kd.slice 2 (Kd.int .i64))).sz = 1 from rfl,Nat.mul_one] at hv127_0;replace hv127_0 := Option.some.inj (hv127_0.symm.trans hx127_0);rw [hv127_0] at ge127_0;have HL127_0 := Aside0.mk (show Kd.R (Kd.int .i64) 2 _ _ _ _ (rd_L6 x5_2 x6_1) from ge127_0);clear hv127_0 ge127_0;have HX127_0 := Aside0.mk hx127_0;clear hcc127 hce127;have HR127_0 := Aside0.mk hi127_0;have HC127_0 := Aside0.mk hl127_0;clear hi127_0 hl127_0;replace p127 := eq_true p127;replace q127 := eq_true q127;refine start_ (n := 9) (S := fun w' => w'.cell? (ad127.add (x6_1).toNat) = some (.slice A127_0 (rd_L6 x5_2 x6_1).length c127_0)) (ds := [8]) #[false,false,false,false,false,false,false,false,false] (by kernel_rfl) rfl rfl (hx127_0) (fun hHeld => ?_);refine with_tabW spec_l07Costs.tab17 spec_l07Costs.bits17 (fun HT_ HW_ => ?_);generalize w73.drew = w74 at HO_5 HB HL127_0 HR127_0 HX127_0 hx127_0 hHeld ⊢;refine pure_ (i := 0) (N := some 115) (v := ?_) (a' := ?_) #[true,false,false,false,false,false,false,false,false] rfl rfl (any_of HT_.out (by kernel_rfl)) (fun _ _ _ h => h) (Or.inl ⟨by rfl,?_⟩) ?_ ?_;rotate_left
                       ·intro w';go_simp;with_reducible rfl
                       rotate_left
                       ·simp only [Act.put,List.setIfInBounds_toArray,List.set_cons_zero,List.set_cons_succ,i64_w,i32_w];rfl
                       refine pure_ (i := 1) (N := some 116) (v := ?_) (a' := ?_) #[true,true,false,false,false,false,false,false,false] rfl rfl (any_of HT_.out (by kernel_rfl)) (fun _ _ _ h => h) (Or.inl ⟨by rfl,?_⟩) ?_ ?_;rotate_left
                       ·intro w';go_simp;with_reducible rfl
                       rotate_left
                       ·simp only [Act.put,List.setIfInBounds_toArray,List.set_cons_zero,List.set_cons_succ,i64_w,i32_w];rfl
                       refine pure_ (i := 2) (N := some 117) (v := ?_) (a' := ?_) #[true,true,true,false,false,false,false,false,false] rfl rfl (any_of HT_.out (by kernel_rfl)) (fun _ _ _ h => h) (Or.inl ⟨by rfl,?_⟩) ?_ ?_;rotate_left
                       ·intro w';go_simp;with_reducible rfl
                       rotate_left
                       ·simp only [Act.put,List.setIfInBounds_toArray,List.set_cons_zero,List.set_cons_succ,i64_w,i32_w];rfl
                       refine pure_ (i := 4) (N := some 119) (v := ?_) (a' := ?_) #[true,true,true,false,true,false,false,false,false] rfl rfl (any_of HT_.out (by kernel_rfl)) (fun _ _ _ h => h) (Or.inl ⟨by rfl,?_⟩) ?_ ?_;rotate_left
                       ·intro w';go_simp;with_reducible rfl
                       rotate_left
                       ·simp only [Act.put,List.setIfInBounds_toArray,List.set_cons_zero,List.set_cons_succ,i64_w,i32_w];rfl
                       refine pure_ (i := 5) (N := some 120) (v := ?_) (a' := ?_) #[true,true,true,false,true,true,false,false,false] rfl rfl (any_of HT_.out (by kernel_rfl)) (fun _ _ _ h => h) (Or.inl ⟨by rfl,?_⟩) ?_ ?_;rotate_left
                       ·intro w';go_simp;with_reducible rfl
                       rotate_left
                       ·simp only [Act.put,List.setIfInBounds_toArray,List.set_cons_zero,List.set_cons_succ,i64_w,i32_w];rfl
                       refine take_ (i := 3) (N := some 118) (v := ?_) (a' := ?_) #[true,true,true,true,true,true,false,false,false] rfl rfl (take_ofW HT_.out HW_.out (by kernel_rfl)) (fun _ _ _ h => h) (Or.inl ⟨by rfl,?_⟩) hHeld ?_ ?_;rotate_left
                       ·intro w' s0;go_simp;with_reducible rfl
                       rotate_left
                       ·simp only [Act.put,List.setIfInBounds_toArray,List.set_cons_zero,List.set_cons_succ,i64_w,i32_w];rfl
                       refine one_ (i := 6) (N := some 121) #[true,true,true,true,true,true,true,false,false] rfl rfl (one_of HT_.out (by kernel_rfl)) (by decide) (fun K hK => ?_);refine goes_ Try.func107 (by kernel_rfl) rfl #[.int .i64 x8_23,.int .i64 0] (by rfl) rfl rfl (by (try simp only [List.map_toArray,List.map_cons,List.map_nil]);first | done | rfl | (simp only [List.length_drop,List.length_take];rfl)) ?_
                       with_reducible refine (spec_l00Max.calls x8_23 0 t128 _ A69.out).mono ?_
                       rintro e w' ⟨rfl,⟨nd,rfl⟩⟩
                       refine ⟨_,rfl,?_⟩;have p71 : 0 ≤ (x7_2 : Int) := of_decide_eq_true (by first | (with_reducible assumption) | assumption);have q71 : (x7_2 : Int) < (((rd_L6 x5_2 x6_1).length : Int) : Int) := of_decide_eq_true (by first | (with_reducible assumption) | assumption);obtain ⟨go71,co71,eo71,gb71,gl71,cl71,HG71⟩ := Kd.R_form HL127_0.out (by omega);(first | cases eo71 | (injection eo71 with ea_ en_ ec_;(first | subst ea_ | (injection ea_ with ea_;subst ea_));subst ec_;clear en_));have GB71 := Aside0.mk gb71;have GG71 := Aside0.mk HG71;clear gb71 gl71 HG71;obtain ⟨hx71_0,hf71_0⟩ := Kd.R_celln 0 HL127_0.out (x7_2 : Int) p71 q71;replace p71 := eq_true p71;replace q71 := eq_true q71;have hq76 : (x6_1 : Int) < (x5_2.length : Int) := (by have h_ : (x6_1 : Int) < ((x5_2.length : Int) : Int) := of_decide_eq_true (by first | (with_reducible assumption) | assumption);first | exact h_ | (have e_ := (Kd.S_reads' HO_5.out).1;omega) | simpa only [List.length_set,List.length_set] using h_);obtain ⟨oki76,ce76,hcl76,hM76,hcc76,hok76,hbk76⟩ := Kd.S_borrow HO_5.out [] (x6_1 : Int) (of_decide_eq_true (by first | (with_reducible assumption) | assumption)) hq76;obtain ⟨ve76_0,rfl,ge76_0⟩ := hM76;have hv76 := hcc76 0 _ rfl;rw [Nat.add_zero,show ((Kd.slice 2 (Kd.int .i64))).sz = 1 from rfl,Nat.mul_one] at hv76;replace hv76 := Option.some.inj (hv76.symm.trans HX127_0.out);subst hv76;clear hcc76 hcl76;replace ge76_0 := (show Kd.R (Kd.int .i64) 2 _ _ _ _ (rd_L6 x5_2 x6_1) from ge76_0);have HP76 := Kd.R_putg ge76_0 (x7_2 : Int) t128;rw [← Ny129.out] at HP76;have HS76 := hbk76 HP76.2 (fun k_ e_ => by injection e_ with e_;subst e_;exact ge76_0.1 _ rfl) (x' := y129) (Kd.M_row HP76.1);rw [← Ny131.out] at HS76;have HQ76 := Aside0.mk HS76;clear HP76 HS76 hbk76 hok76;refine hK.out _ _ (hHeld) (fun hHeld => ?_);clear hK K;refine norm_ (a' := ?_) ?_ ?_;rotate_left
                       ·show Act.put _ (some 121) _ = _
                        simp only [Act.put,List.setIfInBounds_toArray,List.set_cons_zero,List.set_cons_succ,i64_w,i32_w];rfl
                       refine pure_ (i := 7) (N := some 122) (v := ?_) (a' := ?_) #[true,true,true,true,true,true,true,true,false] rfl rfl (any_of HT_.out (by kernel_rfl)) (fun _ _ _ h => h) (Or.inl ⟨by rfl,?_⟩) ?_ ?_;rotate_left
                       ·intro w';go_simp;with_reducible rfl
                       rotate_left
                       ·simp only [Act.put,List.setIfInBounds_toArray,List.set_cons_zero,List.set_cons_succ,i64_w,i32_w];rfl
                       refine last_ (i := 8) (N := none) #[true,true,true,true,true,true,true,true,true] rfl rfl (one_of HT_.out (by kernel_rfl)) (by decide) (fun K hK => ?_);refine skip_ (w1 := ?_) (by rfl) rfl ?_ ?_;rotate_left
                       ·go_simp;rfl
                       refine hK.out _ _ ?_;clear hK K;refine done_ (done_of HT_.out (by kernel_rfl)) ?_;(try go_wp2)
                       go_roundg kj31
                       case measure => have := HK1.out;have := HK2.out;have := HJ6.out;have := HJ14.out;have := HJ23.out;have := HJ31.out;omega
                       case rel => exact ⟨(y131),(wrap64 (x7_2 - 1)),(by first | rfl | (simp only [IntKind.wrap_i64,wrap64];done) | (simp;done) | (simp [*];done)),H',⟨by have := HK1.out;have := HK2.out;have := HJ6.out;have := HJ14.out;have := HJ23.out;have := HJ31.out;omega⟩,⟨by (with_reducible repeat (first | apply Kd.S_alloc | apply Kd.S_drewN | apply Kd.S_drew));exact HQ76.out⟩,⟨by repeat (first | (with_reducible first | exact HB.out | apply below_alloc | apply pw_below_drewN | apply below_drew1 | refine below_set ?_ GB71.out) | exact HB.out)⟩⟩
                      ·rw [if_neg c70] at H;exact absurd H (by simp)
                     ·rw [if_neg c68] at H;exact absurd H (by simp)
                   ·rw [if_neg c38] at H;exact absurd H (by simp)
                  ·rw [if_neg c37] at H;exact absurd H (by simp)
                 ·rw [if_neg c36] at H;exact absurd H (by simp)
                ·rw [if_neg c35] at H;exact absurd H (by simp)
               ·replace c34 := Bool.eq_false_iff.mpr c34;subst c34
                have H1 : (if 0 ≤ x6_1 then (if x6_1 < (x5_2.length : Int) then ((spec_l00Max.f x8_23 0).bind fun t133 => (if 0 ≤ x7_2 then (if x7_2 < ((rd_L6 x5_2 x6_1).length : Int) then (spec_l07Costs.l1 kj31 l0 l1 (x5_2.set (x6_1 : Int).toNat ((rd_L6 x5_2 x6_1).set (x7_2 : Int).toNat t133)) x6_1 (wrap64 (x7_2 - 1))) else (none)) else (none))) else (none)) else (none)) = some r := by rw [if_neg (show ¬ (false = true) by decide)] at H;exact H
                clear H;have H := H1;clear H1
                by_cases c78 : 0 ≤ x6_1
                ·rw [if_pos c78] at H;have c78b0 : decide (0 ≤ x6_1) = true := decide_eq_true c78;clear c78
                 by_cases c79 : x6_1 < (x5_2.length : Int)
                 ·rw [if_pos c79] at H;have c79b0 : decide (x6_1 < (x5_2.length : Int)) = true := decide_eq_true c79;clear c79;replace H := Option.bind_eq_some_iff.mp H;obtain ⟨t133,A800,H⟩ := H;replace H : (if 0 ≤ x7_2 then (if x7_2 < ((rd_L6 x5_2 x6_1).length : Int) then (spec_l07Costs.l1 kj31 l0 l1 (x5_2.set (x6_1 : Int).toNat ((rd_L6 x5_2 x6_1).set (x7_2 : Int).toNat t133)) x6_1 (wrap64 (x7_2 - 1))) else (none)) else (none)) = some r := H;have A80 := Aside0.mk A800;clear A800
                  by_cases c81 : 0 ≤ x7_2
                  ·rw [if_pos c81] at H;have c81b0 : decide (0 ≤ x7_2) = true := decide_eq_true c81;clear c81
                   by_cases c82 : x7_2 < ((rd_L6 x5_2 x6_1).length : Int)
                   ·rw [if_pos c82] at H;have c82b0 : decide (x7_2 < ((rd_L6 x5_2 x6_1).length : Int)) = true := decide_eq_true c82;clear c82;obtain ⟨y134,hy134⟩ : ∃ y_ : List Int,y_ = ((rd_L6 x5_2 x6_1).set (x7_2 : Int).toNat t133) := ⟨_,rfl⟩
                    replace H : (spec_l07Costs.l1 kj31 l0 l1 (x5_2.set (x6_1 : Int).toNat y134) x6_1 (wrap64 (x7_2 - 1))) = some r := by first | (rw [hy134];with_reducible exact H) | (have H2_ := (Option.bind_some _ _).symm.trans H;rw [hy134];with_reducible exact H2_) | (have H2_ := (Option.bind_some _ _).symm.trans H;with_reducible exact H2_) | with_reducible exact H | (rw [hy134];exact H) | exact H
                    have Ny134 := Aside0.mk hy134;clear hy134;obtain ⟨y136,hy136⟩ : ∃ y_ : List (List Int),y_ = (x5_2.set (x6_1 : Int).toNat y134) := ⟨_,rfl⟩
                    replace H : (spec_l07Costs.l1 kj31 l0 l1 y136 x6_1 (wrap64 (x7_2 - 1))) = some r := by first | (rw [hy136];with_reducible exact H) | (have H2_ := (Option.bind_some _ _).symm.trans H;rw [hy136];with_reducible exact H2_) | (have H2_ := (Option.bind_some _ _).symm.trans H;with_reducible exact H2_) | with_reducible exact H | (rw [hy136];exact H) | exact H
                    have Ny136 := Aside0.mk hy136;clear hy136;have H' := Aside0.mk H;clear H;(try go_wp2);have n0_ := Aside0.mk (Kd.S_drew HO_5.out);have n1_ := Aside0.mk (below_drew1 HB.out);clear HO_5;clear HB;have HO_5 := n0_;have HB := n1_;clear n0_ n1_;obtain ⟨Ao85,co85,eo85⟩ := Kd.S_slice HO_5.out;(first | subst eo85 | (injection eo85 with f1_ f2_ f3_;have f4_ := f1_.symm;have f5_ := f3_.symm;clear f1_ f2_ f3_;subst f4_;subst f5_));have p132 : 0 ≤ (x6_1 : Int) := of_decide_eq_true (by first | (with_reducible assumption) | assumption);have q132 : x6_1 < (x5_2.length : Int) := of_decide_eq_true (by first | (with_reducible assumption) | assumption);obtain ⟨ad132,A132_0,c132_0,e132,hx132_0,hl132_0,hi132_0⟩ := at_L6 (Kd.S_reads' HO_5.out).2.2 x6_1 p132 q132;cases e132;obtain ⟨ce132,hce132,hMe132,hcc132⟩ := Kd.S_get HO_5.out [] x6_1 p132 (by first | exact q132 | exact of_decide_eq_true (by first | (with_reducible assumption) | assumption) | (have e_ := (Kd.S_reads' HO_5.out).1;omega));obtain ⟨ve132_0,rfl,ge132_0⟩ := hMe132;have hv132_0 := hcc132 0 _ rfl;rw [Nat.add_zero,show ((Kd.slice 2 (Kd.int .i64))).sz = 1 from rfl,Nat.mul_one] at hv132_0;replace hv132_0 := Option.some.inj (hv132_0.symm.trans hx132_0);rw [hv132_0] at ge132_0;have HL132_0 := Aside0.mk (show Kd.R (Kd.int .i64) 2 _ _ _ _ (rd_L6 x5_2 x6_1) from ge132_0);clear hv132_0 ge132_0;have HX132_0 := Aside0.mk hx132_0;clear hcc132 hce132;have HR132_0 := Aside0.mk hi132_0;have HC132_0 := Aside0.mk hl132_0;clear hi132_0 hl132_0;replace p132 := eq_true p132;replace q132 := eq_true q132;refine start_ (n := 9) (S := fun w' => w'.cell? (ad132.add (x6_1).toNat) = some (.slice A132_0 (rd_L6 x5_2 x6_1).length c132_0)) (ds := [8]) #[false,false,false,false,false,false,false,false,false] (by kernel_rfl) rfl rfl (hx132_0) (fun hHeld => ?_);refine with_tabW spec_l07Costs.tab17 spec_l07Costs.bits17 (fun HT_ HW_ => ?_);generalize wc.drew = w84 at HO_5 HB HL132_0 HR132_0 HX132_0 hx132_0 hHeld ⊢;refine pure_ (i := 0) (N := some 115) (v := ?_) (a' := ?_) #[true,false,false,false,false,false,false,false,false] rfl rfl (any_of HT_.out (by kernel_rfl)) (fun _ _ _ h => h) (Or.inl ⟨by rfl,?_⟩) ?_ ?_;rotate_left
                    ·intro w';go_simp;with_reducible rfl
                    rotate_left
                    ·simp only [Act.put,List.setIfInBounds_toArray,List.set_cons_zero,List.set_cons_succ,i64_w,i32_w];rfl
                    refine pure_ (i := 1) (N := some 116) (v := ?_) (a' := ?_) #[true,true,false,false,false,false,false,false,false] rfl rfl (any_of HT_.out (by kernel_rfl)) (fun _ _ _ h => h) (Or.inl ⟨by rfl,?_⟩) ?_ ?_;rotate_left
                    ·intro w';go_simp;with_reducible rfl
                    rotate_left
                    ·simp only [Act.put,List.setIfInBounds_toArray,List.set_cons_zero,List.set_cons_succ,i64_w,i32_w];rfl
                    refine pure_ (i := 2) (N := some 117) (v := ?_) (a' := ?_) #[true,true,true,false,false,false,false,false,false] rfl rfl (any_of HT_.out (by kernel_rfl)) (fun _ _ _ h => h) (Or.inl ⟨by rfl,?_⟩) ?_ ?_;rotate_left
                    ·intro w';go_simp;with_reducible rfl
                    rotate_left
                    ·simp only [Act.put,List.setIfInBounds_toArray,List.set_cons_zero,List.set_cons_succ,i64_w,i32_w];rfl
                    refine pure_ (i := 4) (N := some 119) (v := ?_) (a' := ?_) #[true,true,true,false,true,false,false,false,false] rfl rfl (any_of HT_.out (by kernel_rfl)) (fun _ _ _ h => h) (Or.inl ⟨by rfl,?_⟩) ?_ ?_;rotate_left
                    ·intro w';go_simp;with_reducible rfl
                    rotate_left
                    ·simp only [Act.put,List.setIfInBounds_toArray,List.set_cons_zero,List.set_cons_succ,i64_w,i32_w];rfl
                    refine pure_ (i := 5) (N := some 120) (v := ?_) (a' := ?_) #[true,true,true,false,true,true,false,false,false] rfl rfl (any_of HT_.out (by kernel_rfl)) (fun _ _ _ h => h) (Or.inl ⟨by rfl,?_⟩) ?_ ?_;rotate_left
                    ·intro w';go_simp;with_reducible rfl
                    rotate_left
                    ·simp only [Act.put,List.setIfInBounds_toArray,List.set_cons_zero,List.set_cons_succ,i64_w,i32_w];rfl
                    refine take_ (i := 3) (N := some 118) (v := ?_) (a' := ?_) #[true,true,true,true,true,true,false,false,false] rfl rfl (take_ofW HT_.out HW_.out (by kernel_rfl)) (fun _ _ _ h => h) (Or.inl ⟨by rfl,?_⟩) hHeld ?_ ?_;rotate_left
                    ·intro w' s0;go_simp;with_reducible rfl
                    rotate_left
                    ·simp only [Act.put,List.setIfInBounds_toArray,List.set_cons_zero,List.set_cons_succ,i64_w,i32_w];rfl
                    refine one_ (i := 6) (N := some 121) #[true,true,true,true,true,true,true,false,false] rfl rfl (one_of HT_.out (by kernel_rfl)) (by decide) (fun K hK => ?_);refine goes_ Try.func107 (by kernel_rfl) rfl #[.int .i64 x8_23,.int .i64 0] (by rfl) rfl rfl (by (try simp only [List.map_toArray,List.map_cons,List.map_nil]);first | done | rfl | (simp only [List.length_drop,List.length_take];rfl)) ?_
                    with_reducible refine (spec_l00Max.calls x8_23 0 t133 _ A80.out).mono ?_
                    rintro e w' ⟨rfl,⟨nd,rfl⟩⟩
                    refine ⟨_,rfl,?_⟩;have p83 : 0 ≤ (x7_2 : Int) := of_decide_eq_true (by first | (with_reducible assumption) | assumption);have q83 : (x7_2 : Int) < (((rd_L6 x5_2 x6_1).length : Int) : Int) := of_decide_eq_true (by first | (with_reducible assumption) | assumption);obtain ⟨go83,co83,eo83,gb83,gl83,cl83,HG83⟩ := Kd.R_form HL132_0.out (by omega);(first | cases eo83 | (injection eo83 with ea_ en_ ec_;(first | subst ea_ | (injection ea_ with ea_;subst ea_));subst ec_;clear en_));have GB83 := Aside0.mk gb83;have GG83 := Aside0.mk HG83;clear gb83 gl83 HG83;obtain ⟨hx83_0,hf83_0⟩ := Kd.R_celln 0 HL132_0.out (x7_2 : Int) p83 q83;replace p83 := eq_true p83;replace q83 := eq_true q83;have hq86 : (x6_1 : Int) < (x5_2.length : Int) := (by have h_ : (x6_1 : Int) < ((x5_2.length : Int) : Int) := of_decide_eq_true (by first | (with_reducible assumption) | assumption);first | exact h_ | (have e_ := (Kd.S_reads' HO_5.out).1;omega) | simpa only [List.length_set,List.length_set] using h_);obtain ⟨oki86,ce86,hcl86,hM86,hcc86,hok86,hbk86⟩ := Kd.S_borrow HO_5.out [] (x6_1 : Int) (of_decide_eq_true (by first | (with_reducible assumption) | assumption)) hq86;obtain ⟨ve86_0,rfl,ge86_0⟩ := hM86;have hv86 := hcc86 0 _ rfl;rw [Nat.add_zero,show ((Kd.slice 2 (Kd.int .i64))).sz = 1 from rfl,Nat.mul_one] at hv86;replace hv86 := Option.some.inj (hv86.symm.trans HX132_0.out);subst hv86;clear hcc86 hcl86;replace ge86_0 := (show Kd.R (Kd.int .i64) 2 _ _ _ _ (rd_L6 x5_2 x6_1) from ge86_0);have HP86 := Kd.R_putg ge86_0 (x7_2 : Int) t133;rw [← Ny134.out] at HP86;have HS86 := hbk86 HP86.2 (fun k_ e_ => by injection e_ with e_;subst e_;exact ge86_0.1 _ rfl) (x' := y134) (Kd.M_row HP86.1);rw [← Ny136.out] at HS86;have HQ86 := Aside0.mk HS86;clear HP86 HS86 hbk86 hok86;refine hK.out _ _ (hHeld) (fun hHeld => ?_);clear hK K;refine norm_ (a' := ?_) ?_ ?_;rotate_left
                    ·show Act.put _ (some 121) _ = _
                     simp only [Act.put,List.setIfInBounds_toArray,List.set_cons_zero,List.set_cons_succ,i64_w,i32_w];rfl
                    refine pure_ (i := 7) (N := some 122) (v := ?_) (a' := ?_) #[true,true,true,true,true,true,true,true,false] rfl rfl (any_of HT_.out (by kernel_rfl)) (fun _ _ _ h => h) (Or.inl ⟨by rfl,?_⟩) ?_ ?_;rotate_left
                    ·intro w';go_simp;with_reducible rfl
                    rotate_left
                    ·simp only [Act.put,List.setIfInBounds_toArray,List.set_cons_zero,List.set_cons_succ,i64_w,i32_w];rfl
                    refine last_ (i := 8) (N := none) #[true,true,true,true,true,true,true,true,true] rfl rfl (one_of HT_.out (by kernel_rfl)) (by decide) (fun K hK => ?_);refine skip_ (w1 := ?_) (by rfl) rfl ?_ ?_;rotate_left
                    ·go_simp;rfl
                    refine hK.out _ _ ?_;clear hK K;refine done_ (done_of HT_.out (by kernel_rfl)) ?_;(try go_wp2)
                    go_roundg kj31
                    case measure => have := HK1.out;have := HK2.out;have := HJ6.out;have := HJ14.out;have := HJ23.out;have := HJ31.out;omega
                    case rel => exact ⟨(y136),(wrap64 (x7_2 - 1)),(by first | rfl | (simp only [IntKind.wrap_i64,wrap64];done) | (simp;done) | (simp [*];done)),H',⟨by have := HK1.out;have := HK2.out;have := HJ6.out;have := HJ14.out;have := HJ23.out;have := HJ31.out;omega⟩,⟨by (with_reducible repeat (first | apply Kd.S_alloc | apply Kd.S_drewN | apply Kd.S_drew));exact HQ86.out⟩,⟨by repeat (first | (with_reducible first | exact HB.out | apply below_alloc | apply pw_below_drewN | apply below_drew1 | refine below_set ?_ GB83.out) | exact HB.out)⟩⟩
                   ·rw [if_neg c82] at H;exact absurd H (by simp)
                  ·rw [if_neg c81] at H;exact absurd H (by simp)
                 ·rw [if_neg c79] at H;exact absurd H (by simp)
                ·rw [if_neg c78] at H;exact absurd H (by simp)
      ·rw [if_neg c6] at H;have c6b0 : decide (0 ≤ x7_2) = false := decide_eq_false c6;clear c6;have H' := Aside0.mk H;clear H
       go_wp2
       go_roundg k2
       case measure => have := HK1.out;have := HK2.out;omega
       case rel => exact ⟨(x5_2),(wrap64 (x6_1 - 1)),(by first | rfl | (simp only [IntKind.wrap_i64,wrap64];done) | (simp;done) | (simp [*];done)),H',⟨by have := HK1.out;have := HK2.out;omega⟩,⟨by (with_reducible repeat (first | apply Kd.S_alloc | apply Kd.S_drewN | apply Kd.S_drew));exact HO_5.out⟩,⟨by repeat (first | (with_reducible first | exact HB.out | apply below_alloc | apply pw_below_drewN | apply below_drew1) | exact HB.out)⟩⟩
   ·rw [if_neg c5] at H;have c5b0 : decide (0 ≤ x6_1) = false := decide_eq_false c5;clear c5;obtain rfl := Option.some.inj H
    go_wp2
    go_ret
    exact ⟨_,by first | rfl | (simp [errW_none,errW_some,IntKind.wrap_i64,wrap64];done) | (simp [errW_none,errW_some] <;> rfl) | (simp [*,errW_none,errW_some] <;> rfl),by (with_reducible repeat (first | apply Kd.S_alloc | apply Kd.S_drewN | apply Kd.S_drew));exact HO_5.out,by repeat (first | (with_reducible first | exact HB.out | apply below_alloc | apply pw_below_drewN | apply below_drew1) | exact HB.out)⟩
end Go.Proofs.Ytidkniacmcbgiaa.G
end

section
namespace Go.Proofs.Ytidkniacmcbgiaa.G
open Go.RowKit Go.Proofs.YtidkniacmcbgiaaW.PrintWords Go.Proofs.YtidkniacmcbgiaaW.PrintLast Go.Proofs.YtidkniacmcbgiaaW.PrintMore
attribute [local go_sem] max2_int min2_int max_two min_two max_three min_three max_four min_four
set_option linter.unusedVariables false
set_option linter.unusedSimpArgs false
mutual
def spec_l07Story.l0 : Nat → List (S73) → List (S73) → List (List Int) → List (S100) → Int → Int → Option ((List (S100)))
 | 0,_,_,_,_,_,_ => none
 | k + 1,x0,x1,x5,x6,x7,x8 => if x7 < (x0.length : Int) then (spec_l07Story.j1 k x0 x1 x5 x6 x7 x8 true) else (spec_l07Story.j1 k x0 x1 x5 x6 x7 x8 (decide (x8 < (x1.length : Int))))
def spec_l07Story.j1 : Nat → List (S73) → List (S73) → List (List Int) → List (S100) → Int → Int → Bool → Option ((List (S100)))
 | 0,_,_,_,_,_,_,_ => none
 | k + 1,x0,x1,x5,x6,x7,x8,x23 => if x23 = true then (if x7 < (x0.length : Int) then (spec_l07Story.j2 k x0 x1 x5 x6 x7 x8 (-1) (decide (x8 < (x1.length : Int)))) else (spec_l07Story.j2 k x0 x1 x5 x6 x7 x8 (-1) false)) else (some x6)
def spec_l07Story.j2 : Nat → List (S73) → List (S73) → List (List Int) → List (S100) → Int → Int → Int → Bool → Option ((List (S100)))
 | 0,_,_,_,_,_,_,_,_ => none
 | k + 1,x0,x1,x5,x6,x7,x8,x9,x33 => if x33 = true then (if 0 ≤ x7 then (if x7 < (x0.length : Int) then (if 0 ≤ x8 then (if x8 < (x1.length : Int) then ((spec_l07Cost.f ((rd_T73 x0 x7).f0) ((rd_T73 x0 x7).f1) ((rd_T73 x0 x7).f2) ((rd_T73 x1 x8).f0) ((rd_T73 x1 x8).f1) ((rd_T73 x1 x8).f2)).bind fun t109 => (spec_l07Story.j3 k x0 x1 x5 x6 x7 x8 t109)) else (none)) else (none)) else (none)) else (none)) else (spec_l07Story.j3 k x0 x1 x5 x6 x7 x8 x9)
def spec_l07Story.j3 : Nat → List (S73) → List (S73) → List (List Int) → List (S100) → Int → Int → Int → Option ((List (S100)))
 | 0,_,_,_,_,_,_,_ => none
 | k + 1,x0,x1,x5,x6,x7,x8,x9 => if x9 ≥ 0 then (if 0 ≤ (wrap64 (x7 + 1)) then (if (wrap64 (x7 + 1)) < (x5.length : Int) then (if 0 ≤ (wrap64 (x8 + 1)) then (if (wrap64 (x8 + 1)) < ((rd_L6 x5 (wrap64 (x7 + 1))).length : Int) then (if 0 ≤ x7 then (if x7 < (x5.length : Int) then (if 0 ≤ x8 then (if x8 < ((rd_L6 x5 x7).length : Int) then (spec_l07Story.j4 k x0 x1 x5 x6 x7 x8 ((wrap64 (x9 + (rd (rd_L6 x5 (wrap64 (x7 + 1))) (wrap64 (x8 + 1))))) == (rd (rd_L6 x5 x7) x8))) else (none)) else (none)) else (none)) else (none)) else (none)) else (none)) else (none)) else (none)) else (spec_l07Story.j4 k x0 x1 x5 x6 x7 x8 false)
def spec_l07Story.j4 : Nat → List (S73) → List (S73) → List (List Int) → List (S100) → Int → Int → Bool → Option ((List (S100)))
 | 0,_,_,_,_,_,_,_ => none
 | k + 1,x0,x1,x5,x6,x7,x8,x50 => if x50 = true then (if x6.length < 8796093022208 then (spec_l07Story.l0 k x0 x1 x5 (x6 ++ [(⟨x7,x8⟩ : S100)]) (wrap64 (x7 + 1)) (wrap64 (x8 + 1))) else (none)) else (if x7 < (x0.length : Int) then (if 0 ≤ (wrap64 (x7 + 1)) then (if (wrap64 (x7 + 1)) < (x5.length : Int) then (if 0 ≤ x8 then (if x8 < ((rd_L6 x5 (wrap64 (x7 + 1))).length : Int) then (if 0 ≤ x7 then (if x7 < (x5.length : Int) then (if x8 < ((rd_L6 x5 x7).length : Int) then (if (wrap64 (1 + (rd (rd_L6 x5 (wrap64 (x7 + 1))) x8))) = (rd (rd_L6 x5 x7) x8) then (if x6.length < 8796093022208 then (spec_l07Story.l0 k x0 x1 x5 (x6 ++ [(⟨x7,(-1)⟩ : S100)]) (wrap64 (x7 + 1)) x8) else (none)) else (if x6.length < 8796093022208 then (spec_l07Story.l0 k x0 x1 x5 (x6 ++ [(⟨(-1),x8⟩ : S100)]) x7 (wrap64 (x8 + 1))) else (none))) else (none)) else (none)) else (none)) else (none)) else (none)) else (none)) else (none)) else (if x6.length < 8796093022208 then (spec_l07Story.l0 k x0 x1 x5 (x6 ++ [(⟨(-1),x8⟩ : S100)]) x7 (wrap64 (x8 + 1))) else (none)))
end
def spec_l07Story.f (k : Nat) (l0 : List (S73)) (l1 : List (S73)) : Option ((List (S100))) := (spec_l07Costs.f k l0 l1).bind fun t101 => (spec_l07Story.l0 k l0 l1 t101 (([] : List (S100))) 0 0)
def spec_l07Story.T8 : Bool × List (List Nat × List Nat) := (true,[([],[]),([],[]),([0,1],[0,1]),([2],[2]),([],[]),([],[]),([4,5],[4,5]),([6],[6]),([3,7],[3,7]),([8,8,0,1,2,3,4,5,6,7,8],[8])])
def spec_l07Story.B8 : List Nat := [0,0,3,7,0,0,48,112,255,511]
theorem spec_l07Story.tab8 : rtab .any (opsOf Try.f110 8) = spec_l07Story.T8 := by kernel_rfl
theorem spec_l07Story.bits8 : waitsOk spec_l07Story.T8.2 spec_l07Story.B8 = true := by kernel_rfl
def spec_l07Story.T11 : Bool × List (List Nat × List Nat) := (true,[([],[]),([0],[0]),([1],[1]),([2],[2]),([2],[2]),([2],[2]),([5,2],[2,5]),([4,6,2],[2,4,6]),([7,2],[2,7]),([2],[2]),([9,2],[2,9]),([8,10,2],[2,8,10]),([11,2],[2,11]),([3,12,2],[2,3,12]),([2],[2]),([2],[2]),([14,15,2],[2,14,15]),([16,2],[2,16]),([2],[2]),([17,18,2],[2,17,18]),([19,2],[2,19]),([13,20,2],[2,13,20]),([2,21],[2,21]),([22,2],[22])])
def spec_l07Story.B11 : List Nat := [0,1,3,7,7,7,39,119,247,7,519,2039,4087,8191,7,7,49159,114695,7,507911,1032199,2097151,4194303,8388607]
theorem spec_l07Story.tab11 : rtab .any (opsOf Try.f110 11) = spec_l07Story.T11 := by kernel_rfl
theorem spec_l07Story.bits11 : waitsOk spec_l07Story.T11.2 spec_l07Story.B11 = true := by kernel_rfl
def spec_l07Story.T15 : Bool × List (List Nat × List Nat) := (true,[([],[]),([],[]),([1],[1]),([0,2],[0,2]),([3],[3]),([4],[4]),([4],[4]),([6,4],[4,6]),([5,7,4],[4,5,7]),([8,4],[4,8]),([4],[4]),([9,10,4],[4,9,10]),([11,4],[4,11]),([12,4],[4,12]),([4],[4]),([4],[4]),([14,15,4],[4,14,15]),([16,4],[4,16]),([4],[4]),([17,18,4],[4,17,18]),([19,4],[4,19]),([13,20,4],[4,13,20]),([4,21],[4,21]),([22,4],[22])])
def spec_l07Story.B15 : List Nat := [0,0,2,7,15,31,31,95,255,511,31,2047,4095,8191,31,31,49183,114719,31,507935,1032223,2097151,4194303,8388607]
theorem spec_l07Story.tab15 : rtab .any (opsOf Try.f110 15) = spec_l07Story.T15 := by kernel_rfl
theorem spec_l07Story.bits15 : waitsOk spec_l07Story.T15.2 spec_l07Story.B15 = true := by kernel_rfl
set_option maxHeartbeats 8000000 in
set_option maxRecDepth 100000 in
theorem spec_l07Story.calls (k : Nat) (A0 : Option Addr) (c0 : Nat) (l0 : List (S73)) (A1 : Option Addr) (c1 : Nat) (l1 : List (S73)) (r : List (S100)) (w : World) (hr0 : Kd.C k73 w A0 l0.length l0) (hc0 : l0.length ≤ c0) (hr1 : Kd.C k73 w A1 l1.length l1) (hc1 : l1.length ≤ c1) (h : spec_l07Story.f k l0 l1 = some r) :
  Calls Try.prog 110 #[.slice A0 l0.length c0,.slice A1 l1.length c1] w fun e w' => ∃ v0_ : Value,e = .returned (v0_) ∧ Kd.R k100 100 w' w.heap.size (fun _ => True) v0_ r ∧ Below w.heap.size w w' := by
 have hu73 := Try.underlying73;have hu100 := Try.underlying100;have HR0 := Aside0.mk hr0;have HC0 := Aside0.mk hc0;clear hr0 hc0;have HR1 := Aside0.mk hr1;have HC1 := Aside0.mk hc1;clear hr1 hc1;have HB := Aside0.mk (Below.refl w.heap.size w);have H : ((spec_l07Costs.f k l0 l1).bind fun t101 => (spec_l07Story.l0 k l0 l1 t101 (([] : List (S100))) 0 0)) = some r := h;clear h;replace H := Option.bind_eq_some_iff.mp H;obtain ⟨t101,A30,H⟩ := H;replace H : (spec_l07Story.l0 k l0 l1 t101 (([] : List (S100))) 0 0) = some r := H;have A3 := Aside0.mk A30;clear A30;obtain ⟨y104,hy104⟩ : ∃ y_ : List (S100),y_ = (([] : List (S100))) := ⟨_,rfl⟩
 replace H : (spec_l07Story.l0 k l0 l1 t101 y104 0 0) = some r := by first | (rw [hy104];with_reducible exact H) | (have H2_ := (Option.bind_some _ _).symm.trans H;rw [hy104];with_reducible exact H2_) | (have H2_ := (Option.bind_some _ _).symm.trans H;with_reducible exact H2_) | with_reducible exact H | (rw [hy104];exact H) | exact H
 have Ny104 := Aside0.mk hy104;clear hy104;have H' := Aside0.mk H;clear H
 go_enter Try.func110,Try.ntmps110
 go_wp2_with (first | ((with_reducible refine gate_callee (f := 85) rfl ?_);refine goesL_ (some 12) rfl rfl Try.func85 (by kernel_rfl) rfl #[.slice A0 l0.length c0,.slice A1 l1.length c1] rfl (by (try simp only [List.map_toArray,List.map_cons,List.map_nil]);first | done | rfl | (simp only [List.length_drop,List.length_take];rfl)) ?_;(with_reducible refine (spec_l07Costs.calls k _ _ l0 _ _ l1 t101 _ ?side1 ?side2 ?side3 ?side4 A3.out).mono ?_);(case side1 => repeat (first | exact HR0.out | (with_reducible refine Kd.C_alloc ?_ _) | (with_reducible refine Kd.C_drewN ?_ _) | (with_reducible refine Kd.C_drew ?_)));(case side2 => exact HC0.out);(case side3 => repeat (first | exact HR1.out | (with_reducible refine Kd.C_alloc ?_ _) | (with_reducible refine Kd.C_drewN ?_ _) | (with_reducible refine Kd.C_drew ?_)));(case side4 => exact HC1.out);rintro e w4 ⟨v102,rfl,ho0,hb⟩;refine ⟨_,rfl,?_⟩;have n0_ := Aside0.mk (Kd.S_lower ho0 (below_size (by repeat (first | (with_reducible first | exact HB.out | apply below_alloc | apply pw_below_drewN | apply below_drew1) | exact HB.out))));have n1_ := Aside0.mk (below_step (by repeat (first | (with_reducible first | exact HB.out | apply below_alloc | apply pw_below_drewN | apply below_drew1) | exact HB.out)) hb);clear HB;have HO103 := n0_;have HB := n1_;clear n0_ n1_;(try clear hb);(try clear hb2);(try clear hk);(try clear hi);(try clear ho0)) | ((with_reducible refine gate_dst (N := 13) rfl ?_);(try (refine gate_guard (by rfl) ?_;dsimp only));refine Kd.R_lit k100 _ 100 ?hg (N := 13) ?hd (xs := ([] : List (S100))) (inner := []) (ok := fun _ => True) (okp := fun _ => True) ?hr ?hp (fun _ hk => hk) trivial (Below.refl _ _) (Nat.le_refl _) (by simp) ?_;(case hd => rfl);(case hg => rfl);(case hr => first | (go_simp;done) | (go_simp;rfl));(case hp => exact (Reps.none _ _));intro v105 w5 ho6 hb hg_ hnew_;clear hg_ hnew_;(first | rw [← Ny104.out] at ho6 | (simp only [Int.reduceToNat] at ho6;rw [← Ny104.out] at ho6));have n0_ := Aside0.mk (Kd.S_below (by (with_reducible repeat (first | apply Kd.S_alloc | apply Kd.S_drewN | apply Kd.S_drew));exact HO103.out) hb);have n1_ := Aside0.mk (Kd.R_lower ho6 (below_size (by repeat (first | (with_reducible first | exact HB.out | apply below_alloc | apply pw_below_drewN | apply below_drew1) | exact HB.out))));have n2_ := Aside0.mk (below_step (by repeat (first | (with_reducible first | exact HB.out | apply below_alloc | apply pw_below_drewN | apply below_drew1) | exact HB.out)) hb);clear HO103;clear HB;have HO103 := n0_;have HO106 := n1_;have HB := n2_;clear n0_ n1_ n2_;clear hb ho6))
 go_loopg [6,7,8] k (fun kq v6 v7 v8 w' => ∃ (x6_1 : List (S100)) (x7_1 : Int) (x8_1 : Int),v7 = .int .i64 x7_1 ∧ v8 = .int .i64 x8_1 ∧ Aside0 (spec_l07Story.l0 kq l0 l1 t101 x6_1 x7_1 x8_1 = some r) ∧ Aside0 (kq ≤ k) ∧ Aside0 (Kd.S (Kd.slice 2 (Kd.int .i64)) 37 w' w.heap.size (fun _ => True) v102 t101) ∧ Aside0 (Kd.R k100 100 w' w.heap.size (fun _ => True) v6 x6_1) ∧ Aside0 (Below w.heap.size w w'))
 case atStart => exact ⟨(y104),(0),(0),(by first | rfl | (simp only [IntKind.wrap_i64,wrap64];done) | (simp;done) | (simp [*];done)),(by first | rfl | (simp only [IntKind.wrap_i64,wrap64];done) | (simp;done) | (simp [*];done)),H',⟨Nat.le_refl _⟩,⟨by (with_reducible repeat (first | apply Kd.S_alloc | apply Kd.S_drewN | apply Kd.S_drew));exact HO103.out⟩,⟨by (with_reducible repeat (first | apply Kd.R_alloc | apply Kd.R_drewN | apply Kd.R_drew));exact HO106.out⟩,⟨by repeat (first | (with_reducible first | exact HB.out | apply below_alloc | apply pw_below_drewN | apply below_drew1) | exact HB.out)⟩⟩
 case round =>
  clear H';(try clear c1);(try clear p2);obtain ⟨x6_1,x7_1,x8_1,rfl,rfl,HA,HK1,HO_5,HO_6,HB⟩ := hrel
  cases gk with
  | zero => exact absurd HA.out (by simp [spec_l07Story.l0])
  | succ k1 =>
   have H := HA.out;clear HA;simp only [spec_l07Story.l0] at H;have HC7 := Aside0.mk H;clear H
   go_upto_region 5 with (fail)
   go_cut [23] (fun v23 wc => ∃ (kq : Nat) (x23_6 : Bool),v23 = .bool x23_6 ∧ Aside0 (spec_l07Story.j1 kq l0 l1 t101 x6_1 x7_1 x8_1 x23_6 = some r) ∧ Aside0 (kq ≤ k1) ∧ Aside0 (Kd.S (Kd.slice 2 (Kd.int .i64)) 37 wc w.heap.size (fun _ => True) v102 t101) ∧ Aside0 (Kd.R k100 100 wc w.heap.size (fun _ => True) u6 x6_1) ∧ Aside0 (Below w.heap.size w wc))
   case first =>
    have H := HC7.out;clear HC7
    by_cases c8 : x7_1 < (l0.length : Int)
    ·rw [if_pos c8] at H;have c8b0 : decide (x7_1 < (l0.length : Int)) = true := decide_eq_true c8;clear c8;(first | rw [c8b0] | (simp only [i64_w,i32_w];rw [c8b0]) | skip);have H' := Aside0.mk H;clear H
     go_wp2
     go_meet
     case rel => exact ⟨_,(true),(by first | rfl | (simp only [IntKind.wrap_i64,wrap64];done) | (simp;done) | (simp [*];done)),H',⟨by have := HK1.out;first | omega | exact Nat.le_refl _⟩,⟨by (with_reducible repeat (first | apply Kd.S_alloc | apply Kd.S_drewN | apply Kd.S_drew));exact HO_5.out⟩,⟨by (with_reducible repeat (first | apply Kd.R_alloc | apply Kd.R_drewN | apply Kd.R_drew));exact HO_6.out⟩,⟨by repeat (first | (with_reducible first | exact HB.out | apply below_alloc | apply pw_below_drewN | apply below_drew1) | exact HB.out)⟩⟩
    ·rw [if_neg c8] at H;have c8b0 : decide (x7_1 < (l0.length : Int)) = false := decide_eq_false c8;clear c8;(first | rw [c8b0] | (simp only [i64_w,i32_w];rw [c8b0]) | skip);have H' := Aside0.mk H;clear H
     go_wp2
     go_meet
     case rel => exact ⟨_,(decide (x8_1 < (l1.length : Int))),(by first | rfl | (simp only [IntKind.wrap_i64,wrap64];done) | (simp;done) | (simp [*];done)),H',⟨by have := HK1.out;first | omega | exact Nat.le_refl _⟩,⟨by (with_reducible repeat (first | apply Kd.S_alloc | apply Kd.S_drewN | apply Kd.S_drew));exact HO_5.out⟩,⟨by (with_reducible repeat (first | apply Kd.R_alloc | apply Kd.R_drewN | apply Kd.R_drew));exact HO_6.out⟩,⟨by repeat (first | (with_reducible first | exact HB.out | apply below_alloc | apply pw_below_drewN | apply below_drew1) | exact HB.out)⟩⟩
   case rest =>
    clear HC7;(try clear c1);(try clear p2);(try clear c8);(try clear c8b0);(try clear p2);obtain ⟨kq,x23_6,rfl,HA,HJ6,HO_5,HO_6,HB⟩ := hcut
    cases kq with
    | zero => exact absurd HA.out (by simp [spec_l07Story.j1])
    | succ kj6 =>
     have H := HA.out;clear HA;simp only [spec_l07Story.j1] at H
     by_cases c9 : x23_6 = true
     ·subst c9
      have H1 : (if x7_1 < (l0.length : Int) then (spec_l07Story.j2 kj6 l0 l1 t101 x6_1 x7_1 x8_1 (-1) (decide (x8_1 < (l1.length : Int)))) else (spec_l07Story.j2 kj6 l0 l1 t101 x6_1 x7_1 x8_1 (-1) false)) = some r := by rw [if_pos rfl] at H;exact H
      clear H;have H := H1;clear H1;have HC10 := Aside0.mk H;clear H
      go_upto_region 7 with (fail)
      go_cut [33] (fun v33 wc => ∃ (kq : Nat) (x33_9 : Bool),v33 = .bool x33_9 ∧ Aside0 (spec_l07Story.j2 kq l0 l1 t101 x6_1 x7_1 x8_1 (-1) x33_9 = some r) ∧ Aside0 (kq ≤ kj6) ∧ Aside0 (Kd.S (Kd.slice 2 (Kd.int .i64)) 37 wc w.heap.size (fun _ => True) v102 t101) ∧ Aside0 (Kd.R k100 100 wc w.heap.size (fun _ => True) u6 x6_1) ∧ Aside0 (Below w.heap.size w wc))
      case first =>
       have H := HC10.out;clear HC10
       by_cases c11 : x7_1 < (l0.length : Int)
       ·rw [if_pos c11] at H;have c11b0 : decide (x7_1 < (l0.length : Int)) = true := decide_eq_true c11;clear c11;(first | rw [c11b0] | (simp only [i64_w,i32_w];rw [c11b0]) | skip);have H' := Aside0.mk H;clear H
        go_wp2
        go_meet
        case rel => exact ⟨_,(decide (x8_1 < (l1.length : Int))),(by first | rfl | (simp only [IntKind.wrap_i64,wrap64];done) | (simp;done) | (simp [*];done)),H',⟨by have := HK1.out;have := HJ6.out;first | omega | exact Nat.le_refl _⟩,⟨by (with_reducible repeat (first | apply Kd.S_alloc | apply Kd.S_drewN | apply Kd.S_drew));exact HO_5.out⟩,⟨by (with_reducible repeat (first | apply Kd.R_alloc | apply Kd.R_drewN | apply Kd.R_drew));exact HO_6.out⟩,⟨by repeat (first | (with_reducible first | exact HB.out | apply below_alloc | apply pw_below_drewN | apply below_drew1) | exact HB.out)⟩⟩
       ·rw [if_neg c11] at H;have c11b0 : decide (x7_1 < (l0.length : Int)) = false := decide_eq_false c11;clear c11;(first | rw [c11b0] | (simp only [i64_w,i32_w];rw [c11b0]) | skip);have H' := Aside0.mk H;clear H
        go_wp2
        go_meet
        case rel => exact ⟨_,(false),(by first | rfl | (simp only [IntKind.wrap_i64,wrap64];done) | (simp;done) | (simp [*];done)),H',⟨by have := HK1.out;have := HJ6.out;first | omega | exact Nat.le_refl _⟩,⟨by (with_reducible repeat (first | apply Kd.S_alloc | apply Kd.S_drewN | apply Kd.S_drew));exact HO_5.out⟩,⟨by (with_reducible repeat (first | apply Kd.R_alloc | apply Kd.R_drewN | apply Kd.R_drew));exact HO_6.out⟩,⟨by repeat (first | (with_reducible first | exact HB.out | apply below_alloc | apply pw_below_drewN | apply below_drew1) | exact HB.out)⟩⟩
      case rest =>
       clear HC10;(try clear c1);(try clear p2);(try clear c8);(try clear c8b0);(try clear c9);(try clear c11);(try clear c11b0);(try clear p2);obtain ⟨kq,x33_9,rfl,HA,HJ9,HO_5,HO_6,HB⟩ := hcut
       cases kq with
       | zero => exact absurd HA.out (by simp [spec_l07Story.j2])
       | succ kj9 =>
        have H := HA.out;clear HA;simp only [spec_l07Story.j2] at H;have HC12 := Aside0.mk H;clear H
        go_upto_if 33 with (fail)
        go_cut [9] (fun v9 wc => ∃ (kq : Nat) (x9_11 : Int),v9 = .int .i64 x9_11 ∧ Aside0 (spec_l07Story.j3 kq l0 l1 t101 x6_1 x7_1 x8_1 x9_11 = some r) ∧ Aside0 (kq ≤ kj9) ∧ Aside0 (Kd.S (Kd.slice 2 (Kd.int .i64)) 37 wc w.heap.size (fun _ => True) v102 t101) ∧ Aside0 (Kd.R k100 100 wc w.heap.size (fun _ => True) u6 x6_1) ∧ Aside0 (Below w.heap.size w wc))
        case first =>
         have H := HC12.out;clear HC12
         by_cases c13 : x33_9 = true
         ·subst c13
          have H1 : (if 0 ≤ x7_1 then (if x7_1 < (l0.length : Int) then (if 0 ≤ x8_1 then (if x8_1 < (l1.length : Int) then ((spec_l07Cost.f ((rd_T73 l0 x7_1).f0) ((rd_T73 l0 x7_1).f1) ((rd_T73 l0 x7_1).f2) ((rd_T73 l1 x8_1).f0) ((rd_T73 l1 x8_1).f1) ((rd_T73 l1 x8_1).f2)).bind fun t109 => (spec_l07Story.j3 kj9 l0 l1 t101 x6_1 x7_1 x8_1 t109)) else (none)) else (none)) else (none)) else (none)) = some r := by rw [if_pos rfl] at H;exact H
          clear H;have H := H1;clear H1
          by_cases c14 : 0 ≤ x7_1
          ·rw [if_pos c14] at H;have c14b0 : decide (0 ≤ x7_1) = true := decide_eq_true c14;clear c14;(first | rw [c14b0] | (simp only [i64_w,i32_w];rw [c14b0]) | skip)
           by_cases c15 : x7_1 < (l0.length : Int)
           ·rw [if_pos c15] at H;have c15b0 : decide (x7_1 < (l0.length : Int)) = true := decide_eq_true c15;clear c15
            by_cases c16 : 0 ≤ x8_1
            ·rw [if_pos c16] at H;have c16b0 : decide (0 ≤ x8_1) = true := decide_eq_true c16;clear c16
             by_cases c17 : x8_1 < (l1.length : Int)
             ·rw [if_pos c17] at H;have c17b0 : decide (x8_1 < (l1.length : Int)) = true := decide_eq_true c17;clear c17;replace H := Option.bind_eq_some_iff.mp H;obtain ⟨t109,A180,H⟩ := H;replace H : (spec_l07Story.j3 kj9 l0 l1 t101 x6_1 x7_1 x8_1 t109) = some r := H;have A18 := Aside0.mk A180;clear A180;have H' := Aside0.mk H;clear H;(try go_wp2);have n0_ := Aside0.mk (Kd.S_drew HO_5.out);have n1_ := Aside0.mk (Kd.R_drew HO_6.out);have n2_ := Aside0.mk (below_drew1 HB.out);clear HO_5;clear HO_6;clear HB;have HO_5 := n0_;have HO_6 := n1_;have HB := n2_;clear n0_ n1_ n2_;have p107 : 0 ≤ (x7_1 : Int) := of_decide_eq_true (by first | (with_reducible assumption) | assumption);have q107 : x7_1 < (l0.length : Int) := of_decide_eq_true (by first | (with_reducible assumption) | assumption);obtain ⟨ad107,e107,hx107_0,hx107_1,hx107_2⟩ := at_T73 HR0.out x7_1 p107 q107;have hw107_2 := hx107_2;have hw107_1 := hx107_1;have hw107_0 := hx107_0;cases e107;replace hx107_0 := (HB.out.cell (World.block_lt_of_cell? w _ hx107_0)).trans hx107_0;replace hx107_1 := (HB.out.cell (World.block_lt_of_cell? w _ hx107_1)).trans hx107_1;replace hx107_2 := (HB.out.cell (World.block_lt_of_cell? w _ hx107_2)).trans hx107_2;replace p107 := eq_true p107;replace q107 := eq_true q107;have p108 : 0 ≤ (x8_1 : Int) := of_decide_eq_true (by first | (with_reducible assumption) | assumption);have q108 : x8_1 < (l1.length : Int) := of_decide_eq_true (by first | (with_reducible assumption) | assumption);obtain ⟨ad108,e108,hx108_0,hx108_1,hx108_2⟩ := at_T73 HR1.out x8_1 p108 q108;have hw108_2 := hx108_2;have hw108_1 := hx108_1;have hw108_0 := hx108_0;cases e108;replace hx108_0 := (HB.out.cell (World.block_lt_of_cell? w _ hx108_0)).trans hx108_0;replace hx108_1 := (HB.out.cell (World.block_lt_of_cell? w _ hx108_1)).trans hx108_1;replace hx108_2 := (HB.out.cell (World.block_lt_of_cell? w _ hx108_2)).trans hx108_2;replace p108 := eq_true p108;replace q108 := eq_true q108;refine start_ (n := 10) (S := fun w' => w'.cell? (ad107.add ((x7_1).toNat * 3)) = some (.int .i64 ((rd_T73 l0 x7_1).f0)) ∧ w'.cell? ⟨(ad107.add ((x7_1).toNat * 3)).block,(ad107.add ((x7_1).toNat * 3)).off + 1,none⟩ = some (.int .i64 ((rd_T73 l0 x7_1).f1)) ∧ w'.cell? ⟨(ad107.add ((x7_1).toNat * 3)).block,(ad107.add ((x7_1).toNat * 3)).off + 2,none⟩ = some (.bool ((rd_T73 l0 x7_1).f2)) ∧ w'.cell? (ad108.add ((x8_1).toNat * 3)) = some (.int .i64 ((rd_T73 l1 x8_1).f0)) ∧ w'.cell? ⟨(ad108.add ((x8_1).toNat * 3)).block,(ad108.add ((x8_1).toNat * 3)).off + 1,none⟩ = some (.int .i64 ((rd_T73 l1 x8_1).f1)) ∧ w'.cell? ⟨(ad108.add ((x8_1).toNat * 3)).block,(ad108.add ((x8_1).toNat * 3)).off + 2,none⟩ = some (.bool ((rd_T73 l1 x8_1).f2))) (ds := []) #[false,false,false,false,false,false,false,false,false,false] (by kernel_rfl) rfl rfl ⟨((HB.out.cell (World.block_lt_of_cell? w _ hw107_0)).trans hw107_0),((HB.out.cell (World.block_lt_of_cell? w _ hw107_1)).trans hw107_1),((HB.out.cell (World.block_lt_of_cell? w _ hw107_2)).trans hw107_2),((HB.out.cell (World.block_lt_of_cell? w _ hw108_0)).trans hw108_0),((HB.out.cell (World.block_lt_of_cell? w _ hw108_1)).trans hw108_1),((HB.out.cell (World.block_lt_of_cell? w _ hw108_2)).trans hw108_2)⟩ (fun hHeld => ?_);refine with_tabW spec_l07Story.tab8 spec_l07Story.bits8 (fun HT_ HW_ => ?_);generalize wc.drew = w19 at HO_5 HO_6 HB hx107_0 hx107_1 hx107_2 hx108_0 hx108_1 hx108_2 hHeld ⊢;refine pure_ (i := 0) (N := some 34) (v := ?_) (a' := ?_) #[true,false,false,false,false,false,false,false,false,false] rfl rfl (any_of HT_.out (by kernel_rfl)) (fun _ _ _ h => h) (Or.inl ⟨by rfl,?_⟩) ?_ ?_;rotate_left
              ·intro w';go_simp;with_reducible rfl
              rotate_left
              ·simp only [Act.put,List.setIfInBounds_toArray,List.set_cons_zero,List.set_cons_succ,i64_w,i32_w];rfl
              refine pure_ (i := 1) (N := some 35) (v := ?_) (a' := ?_) #[true,true,false,false,false,false,false,false,false,false] rfl rfl (any_of HT_.out (by kernel_rfl)) (fun _ _ _ h => h) (Or.inl ⟨by rfl,?_⟩) ?_ ?_;rotate_left
              ·intro w';go_simp;with_reducible rfl
              rotate_left
              ·simp only [Act.put,List.setIfInBounds_toArray,List.set_cons_zero,List.set_cons_succ,i64_w,i32_w];rfl
              refine pure_ (i := 2) (N := some 36) (v := ?_) (a' := ?_) #[true,true,true,false,false,false,false,false,false,false] rfl rfl (any_of HT_.out (by kernel_rfl)) (fun _ _ _ h => h) (Or.inl ⟨by rfl,?_⟩) ?_ ?_;rotate_left
              ·intro w';go_simp;with_reducible rfl
              rotate_left
              ·simp only [Act.put,List.setIfInBounds_toArray,List.set_cons_zero,List.set_cons_succ,i64_w,i32_w];rfl
              refine pure_ (i := 4) (N := some 38) (v := ?_) (a' := ?_) #[true,true,true,false,true,false,false,false,false,false] rfl rfl (any_of HT_.out (by kernel_rfl)) (fun _ _ _ h => h) (Or.inl ⟨by rfl,?_⟩) ?_ ?_;rotate_left
              ·intro w';go_simp;with_reducible rfl
              rotate_left
              ·simp only [Act.put,List.setIfInBounds_toArray,List.set_cons_zero,List.set_cons_succ,i64_w,i32_w];rfl
              refine pure_ (i := 5) (N := some 39) (v := ?_) (a' := ?_) #[true,true,true,false,true,true,false,false,false,false] rfl rfl (any_of HT_.out (by kernel_rfl)) (fun _ _ _ h => h) (Or.inl ⟨by rfl,?_⟩) ?_ ?_;rotate_left
              ·intro w';go_simp;with_reducible rfl
              rotate_left
              ·simp only [Act.put,List.setIfInBounds_toArray,List.set_cons_zero,List.set_cons_succ,i64_w,i32_w];rfl
              refine pure_ (i := 6) (N := some 40) (v := ?_) (a' := ?_) #[true,true,true,false,true,true,true,false,false,false] rfl rfl (any_of HT_.out (by kernel_rfl)) (fun _ _ _ h => h) (Or.inl ⟨by rfl,?_⟩) ?_ ?_;rotate_left
              ·intro w';go_simp;with_reducible rfl
              rotate_left
              ·simp only [Act.put,List.setIfInBounds_toArray,List.set_cons_zero,List.set_cons_succ,i64_w,i32_w];rfl
              refine take_ (i := 3) (N := some 37) (v := ?_) (a' := ?_) #[true,true,true,true,true,true,true,false,false,false] rfl rfl (take_ofW HT_.out HW_.out (by kernel_rfl)) (fun _ _ _ h => h) (Or.inl ⟨by rfl,?_⟩) hHeld ?_ ?_;rotate_left
              ·rintro w' ⟨s0,s1,s2,s3,s4,s5⟩
               go_simp;with_reducible rfl
              rotate_left
              ·simp only [Act.put,List.setIfInBounds_toArray,List.set_cons_zero,List.set_cons_succ,i64_w,i32_w];rfl
              refine take_ (i := 7) (N := some 41) (v := ?_) (a' := ?_) #[true,true,true,true,true,true,true,true,false,false] rfl rfl (take_ofW HT_.out HW_.out (by kernel_rfl)) (fun _ _ _ h => h) (Or.inl ⟨by rfl,?_⟩) hHeld ?_ ?_;rotate_left
              ·rintro w' ⟨s0,s1,s2,s3,s4,s5⟩
               go_simp;with_reducible rfl
              rotate_left
              ·simp only [Act.put,List.setIfInBounds_toArray,List.set_cons_zero,List.set_cons_succ,i64_w,i32_w];rfl
              refine one_ (i := 8) (N := some 42) #[true,true,true,true,true,true,true,true,true,false] rfl rfl (one_of HT_.out (by kernel_rfl)) (by decide) (fun K hK => ?_);refine goes_ Try.func95 (by kernel_rfl) rfl #[.agg #[.int .i64 ((rd_T73 l0 x7_1).f0),.int .i64 ((rd_T73 l0 x7_1).f1),.bool ((rd_T73 l0 x7_1).f2)],.agg #[.int .i64 ((rd_T73 l1 x8_1).f0),.int .i64 ((rd_T73 l1 x8_1).f1),.bool ((rd_T73 l1 x8_1).f2)]] (by rfl) rfl rfl (by (try simp only [List.map_toArray,List.map_cons,List.map_nil]);first | done | rfl | (simp only [List.length_drop,List.length_take];rfl)) ?_
              with_reducible refine (spec_l07Cost.calls ((rd_T73 l0 x7_1).f0) ((rd_T73 l0 x7_1).f1) ((rd_T73 l0 x7_1).f2) ((rd_T73 l1 x8_1).f0) ((rd_T73 l1 x8_1).f1) ((rd_T73 l1 x8_1).f2) t109 _ A18.out).mono ?_
              rintro e w20 ⟨rfl,hb⟩
              refine ⟨_,rfl,?_⟩;have n0_ := Aside0.mk (Kd.S_below (by (with_reducible repeat (first | apply Kd.S_alloc | apply Kd.S_drewN | apply Kd.S_drew));exact HO_5.out) hb);have n1_ := Aside0.mk (Kd.R_below (by (with_reducible repeat (first | apply Kd.R_alloc | apply Kd.R_drewN | apply Kd.R_drew));exact HO_6.out) hb);have n2_ := Aside0.mk (below_step (by repeat (first | (with_reducible first | exact HB.out | apply below_alloc | apply pw_below_drewN | apply below_drew1) | exact HB.out)) hb);clear HO_5;clear HO_6;clear HB;have HO_5 := n0_;have HO_6 := n1_;have HB := n2_;clear n0_ n1_ n2_;(try clear hb);(try clear hb2);(try clear hk);(try clear hi);refine hK.out _ _ ⟨((HB.out.cell (World.block_lt_of_cell? w _ hw107_0)).trans hw107_0),((HB.out.cell (World.block_lt_of_cell? w _ hw107_1)).trans hw107_1),((HB.out.cell (World.block_lt_of_cell? w _ hw107_2)).trans hw107_2),((HB.out.cell (World.block_lt_of_cell? w _ hw108_0)).trans hw108_0),((HB.out.cell (World.block_lt_of_cell? w _ hw108_1)).trans hw108_1),((HB.out.cell (World.block_lt_of_cell? w _ hw108_2)).trans hw108_2)⟩ (fun hHeld => ?_);clear hK K;refine norm_ (a' := ?_) ?_ ?_;rotate_left
              ·show Act.put _ (some 42) _ = _
               simp only [Act.put,List.setIfInBounds_toArray,List.set_cons_zero,List.set_cons_succ,i64_w,i32_w];rfl
              refine pure_ (i := 9) (N := some 9) (v := ?_) (a' := ?_) #[true,true,true,true,true,true,true,true,true,true] rfl rfl (any_of HT_.out (by kernel_rfl)) (fun _ _ _ h => h) (Or.inl ⟨by rfl,?_⟩) ?_ ?_;rotate_left
              ·intro w';go_simp;with_reducible rfl
              rotate_left
              ·simp only [Act.put,List.setIfInBounds_toArray,List.set_cons_zero,List.set_cons_succ,i64_w,i32_w];rfl
              refine done_ (done_of HT_.out (by kernel_rfl)) ?_;(try go_wp2)
              go_meet
              case rel => exact ⟨_,(t109),(by first | rfl | (simp only [IntKind.wrap_i64,wrap64];done) | (simp;done) | (simp [*];done)),H',⟨by have := HK1.out;have := HJ6.out;have := HJ9.out;first | omega | exact Nat.le_refl _⟩,⟨by (with_reducible repeat (first | apply Kd.S_alloc | apply Kd.S_drewN | apply Kd.S_drew));exact HO_5.out⟩,⟨by (with_reducible repeat (first | apply Kd.R_alloc | apply Kd.R_drewN | apply Kd.R_drew));exact HO_6.out⟩,⟨by repeat (first | (with_reducible first | exact HB.out | apply below_alloc | apply pw_below_drewN | apply below_drew1) | exact HB.out)⟩⟩
             ·rw [if_neg c17] at H;exact absurd H (by simp)
            ·rw [if_neg c16] at H;exact absurd H (by simp)
           ·rw [if_neg c15] at H;exact absurd H (by simp)
          ·rw [if_neg c14] at H;exact absurd H (by simp)
         ·replace c13 := Bool.eq_false_iff.mpr c13;subst c13
          have H1 : (spec_l07Story.j3 kj9 l0 l1 t101 x6_1 x7_1 x8_1 (-1)) = some r := by rw [if_neg (show ¬ (false = true) by decide)] at H;exact H
          clear H;have H := H1;clear H1;have H' := Aside0.mk H;clear H
          go_wp2
          go_meet
          case rel => exact ⟨_,((-1)),(by first | rfl | (simp only [IntKind.wrap_i64,wrap64];done) | (simp;done) | (simp [*];done)),H',⟨by have := HK1.out;have := HJ6.out;have := HJ9.out;first | omega | exact Nat.le_refl _⟩,⟨by (with_reducible repeat (first | apply Kd.S_alloc | apply Kd.S_drewN | apply Kd.S_drew));exact HO_5.out⟩,⟨by (with_reducible repeat (first | apply Kd.R_alloc | apply Kd.R_drewN | apply Kd.R_drew));exact HO_6.out⟩,⟨by repeat (first | (with_reducible first | exact HB.out | apply below_alloc | apply pw_below_drewN | apply below_drew1) | exact HB.out)⟩⟩
        case rest =>
         clear HC12;(try clear c1);(try clear p1);(try clear q1);(try clear hx1);(try clear p2);(try clear c8);(try clear c8b0);(try clear c9);(try clear p10);(try clear q10);(try clear hx10);(try clear c11);(try clear c11b0);(try clear c13);(try clear c14);(try clear c14b0);(try clear c15);(try clear c15b0);(try clear c16);(try clear c16b0);(try clear c17);(try clear c17b0);(try clear hx107_0);(try clear hx107_1);(try clear hx107_2);(try clear hx108_0);(try clear hx108_1);(try clear hx108_2);(try clear p107);(try clear p108);(try clear p2);(try clear q107);(try clear q108);obtain ⟨kq,x9_11,rfl,HA,HJ11,HO_5,HO_6,HB⟩ := hcut
         cases kq with
         | zero => exact absurd HA.out (by simp [spec_l07Story.j3])
         | succ kj11 =>
          have H := HA.out;clear HA;simp only [spec_l07Story.j3] at H;have HC21 := Aside0.mk H;clear H
          go_upto_region 11 with (fail)
          go_cut [50] (fun v50 wc => ∃ (kq : Nat) (x50_20 : Bool),v50 = .bool x50_20 ∧ Aside0 (spec_l07Story.j4 kq l0 l1 t101 x6_1 x7_1 x8_1 x50_20 = some r) ∧ Aside0 (kq ≤ kj11) ∧ Aside0 (Kd.S (Kd.slice 2 (Kd.int .i64)) 37 wc w.heap.size (fun _ => True) v102 t101) ∧ Aside0 (Kd.R k100 100 wc w.heap.size (fun _ => True) u6 x6_1) ∧ Aside0 (Below w.heap.size w wc))
          case first =>
           have H := HC21.out;clear HC21
           by_cases c22 : x9_11 ≥ 0
           ·rw [if_pos c22] at H;have c22b0 : decide (0 ≤ x9_11) = true := decide_eq_true c22;clear c22;(first | rw [c22b0] | (simp only [i64_w,i32_w];rw [c22b0]) | skip);obtain ⟨ji23,hji23⟩ : ∃ j_ : Int,(wrap64 (x7_1 + 1)) = j_ := ⟨_,rfl⟩
            replace H : (if 0 ≤ (ji23) then (if (ji23) < (t101.length : Int) then (if 0 ≤ (wrap64 (x8_1 + 1)) then (if (wrap64 (x8_1 + 1)) < ((rd_L6 t101 (ji23)).length : Int) then (if 0 ≤ x7_1 then (if x7_1 < (t101.length : Int) then (if 0 ≤ x8_1 then (if x8_1 < ((rd_L6 t101 x7_1).length : Int) then (spec_l07Story.j4 kj11 l0 l1 t101 x6_1 x7_1 x8_1 ((wrap64 (x9_11 + (rd (rd_L6 t101 (ji23)) (wrap64 (x8_1 + 1))))) == (rd (rd_L6 t101 x7_1) x8_1))) else (none)) else (none)) else (none)) else (none)) else (none)) else (none)) else (none)) else (none)) = some r := by first | (rw [hji23] at H;exact H) | (simp only [hji23] at H ⊢;exact H)
            have hji23w : (IntKind.i64.wrap (x7_1 + 1)) = ji23 := (i64_w _).trans hji23
            by_cases c24 : 0 ≤ (ji23)
            ·rw [if_pos c24] at H;have c24b0 : decide (0 ≤ (ji23)) = true := decide_eq_true c24;clear c24
             by_cases c25 : (ji23) < (t101.length : Int)
             ·rw [if_pos c25] at H;have c25b0 : decide ((ji23) < (t101.length : Int)) = true := decide_eq_true c25;clear c25;obtain ⟨ji26,hji26⟩ : ∃ j_ : Int,(wrap64 (x8_1 + 1)) = j_ := ⟨_,rfl⟩
              replace H : (if 0 ≤ (ji26) then (if (ji26) < ((rd_L6 t101 (ji23)).length : Int) then (if 0 ≤ x7_1 then (if x7_1 < (t101.length : Int) then (if 0 ≤ x8_1 then (if x8_1 < ((rd_L6 t101 x7_1).length : Int) then (spec_l07Story.j4 kj11 l0 l1 t101 x6_1 x7_1 x8_1 ((wrap64 (x9_11 + (rd (rd_L6 t101 (ji23)) (ji26)))) == (rd (rd_L6 t101 x7_1) x8_1))) else (none)) else (none)) else (none)) else (none)) else (none)) else (none)) = some r := by first | (rw [hji26] at H;exact H) | (simp only [hji26] at H ⊢;exact H)
              have hji26w : (IntKind.i64.wrap (x8_1 + 1)) = ji26 := (i64_w _).trans hji26
              by_cases c27 : 0 ≤ (ji26)
              ·rw [if_pos c27] at H;have c27b0 : decide (0 ≤ (ji26)) = true := decide_eq_true c27;clear c27
               by_cases c28 : (ji26) < ((rd_L6 t101 (ji23)).length : Int)
               ·rw [if_pos c28] at H;have c28b0 : decide ((ji26) < ((rd_L6 t101 (ji23)).length : Int)) = true := decide_eq_true c28;clear c28
                by_cases c29 : 0 ≤ x7_1
                ·rw [if_pos c29] at H;have c29b0 : decide (0 ≤ x7_1) = true := decide_eq_true c29;clear c29
                 by_cases c30 : x7_1 < (t101.length : Int)
                 ·rw [if_pos c30] at H;have c30b0 : decide (x7_1 < (t101.length : Int)) = true := decide_eq_true c30;clear c30
                  by_cases c31 : 0 ≤ x8_1
                  ·rw [if_pos c31] at H;have c31b0 : decide (0 ≤ x8_1) = true := decide_eq_true c31;clear c31
                   by_cases c32 : x8_1 < ((rd_L6 t101 x7_1).length : Int)
                   ·rw [if_pos c32] at H;have c32b0 : decide (x8_1 < ((rd_L6 t101 x7_1).length : Int)) = true := decide_eq_true c32;clear c32;have H' := Aside0.mk H;clear H;(try go_wp2);have n0_ := Aside0.mk (Kd.S_drew HO_5.out);have n1_ := Aside0.mk (Kd.R_drew HO_6.out);have n2_ := Aside0.mk (below_drew1 HB.out);clear HO_5;clear HO_6;clear HB;have HO_5 := n0_;have HO_6 := n1_;have HB := n2_;clear n0_ n1_ n2_;obtain ⟨Ao34,co34,eo34⟩ := Kd.S_slice HO_5.out;(first | subst eo34 | (injection eo34 with f1_ f2_ f3_;have f4_ := f1_.symm;have f5_ := f3_.symm;clear f1_ f2_ f3_;subst f4_;subst f5_));have p110 : 0 ≤ ((ji23) : Int) := of_decide_eq_true (by first | (with_reducible assumption) | assumption);have q110 : (ji23) < (t101.length : Int) := of_decide_eq_true (by first | (with_reducible assumption) | assumption);obtain ⟨ad110,A110_0,c110_0,e110,hx110_0,hl110_0,hi110_0⟩ := at_L6 (Kd.S_reads' HO_5.out).2.2 (ji23) p110 q110;cases e110;obtain ⟨ce110,hce110,hMe110,hcc110⟩ := Kd.S_get HO_5.out [] (ji23) p110 (by first | exact q110 | exact of_decide_eq_true (by first | (with_reducible assumption) | assumption) | (have e_ := (Kd.S_reads' HO_5.out).1;omega));obtain ⟨ve110_0,rfl,ge110_0⟩ := hMe110;have hv110_0 := hcc110 0 _ rfl;rw [Nat.add_zero,show ((Kd.slice 2 (Kd.int .i64))).sz = 1 from rfl,Nat.mul_one] at hv110_0;replace hv110_0 := Option.some.inj (hv110_0.symm.trans hx110_0);rw [hv110_0] at ge110_0;have HL110_0 := Aside0.mk (show Kd.R (Kd.int .i64) 2 _ _ _ _ (rd_L6 t101 (ji23)) from ge110_0);clear hv110_0 ge110_0;clear hcc110 hce110;have HR110_0 := Aside0.mk hi110_0;have HC110_0 := Aside0.mk hl110_0;clear hi110_0 hl110_0;replace p110 := eq_true p110;replace q110 := eq_true q110;have p111 : 0 ≤ ((ji26) : Int) := of_decide_eq_true (by first | (with_reducible assumption) | assumption);have q111 : (ji26) < ((rd_L6 t101 (ji23)).length : Int) := of_decide_eq_true (by first | (with_reducible assumption) | assumption);obtain ⟨ad111,e111,hx111_0⟩ := Kd.at_int (by repeat (first | (with_reducible exact HR110_0.out) | (with_reducible refine Kd.C_alloc ?_ _) | (with_reducible refine Kd.C_drewN ?_ _) | (with_reducible refine Kd.C_drew ?_) | exact HR110_0.out)) (ji26) p111 q111;cases e111;replace p111 := eq_true p111;replace q111 := eq_true q111;have p112 : 0 ≤ (x7_1 : Int) := of_decide_eq_true (by first | (with_reducible assumption) | assumption);have q112 : x7_1 < (t101.length : Int) := of_decide_eq_true (by first | (with_reducible assumption) | assumption);obtain ⟨ad112,A112_0,c112_0,e112,hx112_0,hl112_0,hi112_0⟩ := at_L6 (Kd.S_reads' HO_5.out).2.2 x7_1 p112 q112;obtain rfl : ad110 = ad112 := (by injection e112);obtain ⟨ce112,hce112,hMe112,hcc112⟩ := Kd.S_get HO_5.out [] x7_1 p112 (by first | exact q112 | exact of_decide_eq_true (by first | (with_reducible assumption) | assumption) | (have e_ := (Kd.S_reads' HO_5.out).1;omega));obtain ⟨ve112_0,rfl,ge112_0⟩ := hMe112;have hv112_0 := hcc112 0 _ rfl;rw [Nat.add_zero,show ((Kd.slice 2 (Kd.int .i64))).sz = 1 from rfl,Nat.mul_one] at hv112_0;replace hv112_0 := Option.some.inj (hv112_0.symm.trans hx112_0);rw [hv112_0] at ge112_0;have HL112_0 := Aside0.mk (show Kd.R (Kd.int .i64) 2 _ _ _ _ (rd_L6 t101 x7_1) from ge112_0);clear hv112_0 ge112_0;clear hcc112 hce112;have HR112_0 := Aside0.mk hi112_0;have HC112_0 := Aside0.mk hl112_0;clear hi112_0 hl112_0;replace p112 := eq_true p112;replace q112 := eq_true q112;have p113 : 0 ≤ (x8_1 : Int) := of_decide_eq_true (by first | (with_reducible assumption) | assumption);have q113 : x8_1 < ((rd_L6 t101 x7_1).length : Int) := of_decide_eq_true (by first | (with_reducible assumption) | assumption);obtain ⟨ad113,e113,hx113_0⟩ := Kd.at_int (by repeat (first | (with_reducible exact HR112_0.out) | (with_reducible refine Kd.C_alloc ?_ _) | (with_reducible refine Kd.C_drewN ?_ _) | (with_reducible refine Kd.C_drew ?_) | exact HR112_0.out)) x8_1 p113 q113;cases e113;replace p113 := eq_true p113;replace q113 := eq_true q113;refine start_ (n := 24) (S := fun w' => w'.cell? (ad110.add ((ji23)).toNat) = some (.slice (some ad111) (rd_L6 t101 (ji23)).length c110_0) ∧ w'.cell? (ad111.add ((ji26)).toNat) = some (.int .i64 (rd (rd_L6 t101 (ji23)) (ji26))) ∧ w'.cell? (ad110.add (x7_1).toNat) = some (.slice (some ad113) (rd_L6 t101 x7_1).length c112_0) ∧ w'.cell? (ad113.add (x8_1).toNat) = some (.int .i64 (rd (rd_L6 t101 x7_1) x8_1))) (ds := []) #[false,false,false,false,false,false,false,false,false,false,false,false,false,false,false,false,false,false,false,false,false,false,false,false] (by kernel_rfl) rfl rfl ⟨hx110_0,hx111_0,hx112_0,hx113_0⟩ (fun hHeld => ?_);refine with_tabW spec_l07Story.tab11 spec_l07Story.bits11 (fun HT_ HW_ => ?_);generalize wc.drew = w33 at HO_5 HO_6 HB HL110_0 HL112_0 HR110_0 HR112_0 hx110_0 hx111_0 hx112_0 hx113_0 hHeld ⊢;refine pure_ (i := 0) (N := some 51) (v := ?_) (a' := ?_) #[true,false,false,false,false,false,false,false,false,false,false,false,false,false,false,false,false,false,false,false,false,false,false,false] rfl rfl (any_of HT_.out (by kernel_rfl)) (fun _ _ _ h => h) (Or.inl ⟨by rfl,?_⟩) ?_ ?_;rotate_left
                    ·intro w';go_simp;with_reducible rfl
                    rotate_left
                    ·simp only [Act.put,List.setIfInBounds_toArray,List.set_cons_zero,List.set_cons_succ,i64_w,i32_w];rfl
                    refine pure_ (i := 1) (N := some 52) (v := ?_) (a' := ?_) #[true,true,false,false,false,false,false,false,false,false,false,false,false,false,false,false,false,false,false,false,false,false,false,false] rfl rfl (any_of HT_.out (by kernel_rfl)) (fun _ _ _ h => h) (Or.inl ⟨by rfl,?_⟩) ?_ ?_;rotate_left
                    ·intro w';go_simp;with_reducible rfl
                    rotate_left
                    ·simp only [Act.put,List.setIfInBounds_toArray,List.set_cons_zero,List.set_cons_succ,i64_w,i32_w];rfl
                    refine pure_ (i := 2) (N := some 53) (v := ?_) (a' := ?_) #[true,true,true,false,false,false,false,false,false,false,false,false,false,false,false,false,false,false,false,false,false,false,false,false] rfl rfl (any_of HT_.out (by kernel_rfl)) (fun _ _ _ h => h) (Or.inl ⟨by rfl,?_⟩) ?_ ?_;rotate_left
                    ·intro w';go_simp;with_reducible rfl
                    rotate_left
                    ·simp only [Act.put,List.setIfInBounds_toArray,List.set_cons_zero,List.set_cons_succ,i64_w,i32_w];rfl
                    refine pure_ (i := 3) (N := some 54) (v := ?_) (a' := ?_) #[true,true,true,true,false,false,false,false,false,false,false,false,false,false,false,false,false,false,false,false,false,false,false,false] rfl rfl (any_of HT_.out (by kernel_rfl)) (fun _ _ _ h => h) (Or.inl ⟨by rfl,?_⟩) ?_ ?_;rotate_left
                    ·intro w';go_simp;with_reducible rfl
                    rotate_left
                    ·simp only [Act.put,List.setIfInBounds_toArray,List.set_cons_zero,List.set_cons_succ,i64_w,i32_w];rfl
                    refine pure_ (i := 4) (N := some 55) (v := ?_) (a' := ?_) #[true,true,true,true,true,false,false,false,false,false,false,false,false,false,false,false,false,false,false,false,false,false,false,false] rfl rfl (any_of HT_.out (by kernel_rfl)) (fun _ _ _ h => h) (Or.inl ⟨by rfl,?_⟩) ?_ ?_;rotate_left
                    ·intro w';go_simp;with_reducible rfl
                    rotate_left
                    ·simp only [Act.put,List.setIfInBounds_toArray,List.set_cons_zero,List.set_cons_succ,i64_w,i32_w];rfl
                    refine pure_ (i := 5) (N := some 56) (v := ?_) (a' := ?_) #[true,true,true,true,true,true,false,false,false,false,false,false,false,false,false,false,false,false,false,false,false,false,false,false] rfl rfl (any_of HT_.out (by kernel_rfl)) (fun _ _ _ h => h) (Or.inl ⟨by rfl,?_⟩) ?_ ?_;rotate_left
                    ·intro w';go_simp;with_reducible rfl
                    rotate_left
                    ·simp only [Act.put,List.setIfInBounds_toArray,List.set_cons_zero,List.set_cons_succ,i64_w,i32_w];rfl
                    refine pure_ (i := 6) (N := some 57) (v := ?_) (a' := ?_) #[true,true,true,true,true,true,true,false,false,false,false,false,false,false,false,false,false,false,false,false,false,false,false,false] rfl rfl (any_of HT_.out (by kernel_rfl)) (fun _ _ _ h => h) (Or.inl ⟨by rfl,?_⟩) ?_ ?_;rotate_left
                    ·intro w';go_simp;with_reducible rfl
                    rotate_left
                    ·simp only [Act.put,List.setIfInBounds_toArray,List.set_cons_zero,List.set_cons_succ,i64_w,i32_w];rfl
                    refine pure_ (i := 7) (N := some 58) (v := ?_) (a' := ?_) #[true,true,true,true,true,true,true,true,false,false,false,false,false,false,false,false,false,false,false,false,false,false,false,false] rfl rfl (any_of HT_.out (by kernel_rfl)) (fun _ _ _ h => h) (Or.inl ⟨by rfl,?_⟩) ?_ ?_;rotate_left
                    ·intro w';go_simp;with_reducible rfl
                    rotate_left
                    ·simp only [Act.put,List.setIfInBounds_toArray,List.set_cons_zero,List.set_cons_succ,i64_w,i32_w];rfl
                    refine pure_ (i := 9) (N := some 60) (v := ?_) (a' := ?_) #[true,true,true,true,true,true,true,true,false,true,false,false,false,false,false,false,false,false,false,false,false,false,false,false] rfl rfl (any_of HT_.out (by kernel_rfl)) (fun _ _ _ h => h) (Or.inl ⟨by rfl,?_⟩) ?_ ?_;rotate_left
                    ·intro w';go_simp;with_reducible rfl
                    rotate_left
                    ·simp only [Act.put,List.setIfInBounds_toArray,List.set_cons_zero,List.set_cons_succ,i64_w,i32_w];rfl
                    refine pure_ (i := 10) (N := some 61) (v := ?_) (a' := ?_) #[true,true,true,true,true,true,true,true,false,true,true,false,false,false,false,false,false,false,false,false,false,false,false,false] rfl rfl (any_of HT_.out (by kernel_rfl)) (fun _ _ _ h => h) (Or.inl ⟨by rfl,?_⟩) ?_ ?_;rotate_left
                    ·intro w';go_simp;with_reducible rfl
                    rotate_left
                    ·simp only [Act.put,List.setIfInBounds_toArray,List.set_cons_zero,List.set_cons_succ,i64_w,i32_w];rfl
                    refine pure_ (i := 14) (N := some 65) (v := ?_) (a' := ?_) #[true,true,true,true,true,true,true,true,false,true,true,false,false,false,true,false,false,false,false,false,false,false,false,false] rfl rfl (any_of HT_.out (by kernel_rfl)) (fun _ _ _ h => h) (Or.inl ⟨by rfl,?_⟩) ?_ ?_;rotate_left
                    ·intro w';go_simp;with_reducible rfl
                    rotate_left
                    ·simp only [Act.put,List.setIfInBounds_toArray,List.set_cons_zero,List.set_cons_succ,i64_w,i32_w];rfl
                    refine pure_ (i := 15) (N := some 66) (v := ?_) (a' := ?_) #[true,true,true,true,true,true,true,true,false,true,true,false,false,false,true,true,false,false,false,false,false,false,false,false] rfl rfl (any_of HT_.out (by kernel_rfl)) (fun _ _ _ h => h) (Or.inl ⟨by rfl,?_⟩) ?_ ?_;rotate_left
                    ·intro w';go_simp;with_reducible rfl
                    rotate_left
                    ·simp only [Act.put,List.setIfInBounds_toArray,List.set_cons_zero,List.set_cons_succ,i64_w,i32_w];rfl
                    refine pure_ (i := 16) (N := some 67) (v := ?_) (a' := ?_) #[true,true,true,true,true,true,true,true,false,true,true,false,false,false,true,true,true,false,false,false,false,false,false,false] rfl rfl (any_of HT_.out (by kernel_rfl)) (fun _ _ _ h => h) (Or.inl ⟨by rfl,?_⟩) ?_ ?_;rotate_left
                    ·intro w';go_simp;with_reducible rfl
                    rotate_left
                    ·simp only [Act.put,List.setIfInBounds_toArray,List.set_cons_zero,List.set_cons_succ,i64_w,i32_w];rfl
                    refine pure_ (i := 18) (N := some 69) (v := ?_) (a' := ?_) #[true,true,true,true,true,true,true,true,false,true,true,false,false,false,true,true,true,false,true,false,false,false,false,false] rfl rfl (any_of HT_.out (by kernel_rfl)) (fun _ _ _ h => h) (Or.inl ⟨by rfl,?_⟩) ?_ ?_;rotate_left
                    ·intro w';go_simp;with_reducible rfl
                    rotate_left
                    ·simp only [Act.put,List.setIfInBounds_toArray,List.set_cons_zero,List.set_cons_succ,i64_w,i32_w];rfl
                    refine take_ (i := 8) (N := some 59) (v := ?_) (a' := ?_) #[true,true,true,true,true,true,true,true,true,true,true,false,false,false,true,true,true,false,true,false,false,false,false,false] rfl rfl (take_ofW HT_.out HW_.out (by kernel_rfl)) (fun _ _ _ h => h) (Or.inl ⟨by rfl,?_⟩) hHeld ?_ ?_;rotate_left
                    ·rintro w' ⟨s0,s1,s2,s3⟩
                     go_simp;with_reducible rfl
                    rotate_left
                    ·simp only [Act.put,List.setIfInBounds_toArray,List.set_cons_zero,List.set_cons_succ,i64_w,i32_w];rfl
                    refine pure_ (i := 11) (N := some 62) (v := ?_) (a' := ?_) #[true,true,true,true,true,true,true,true,true,true,true,true,false,false,true,true,true,false,true,false,false,false,false,false] rfl rfl (any_of HT_.out (by kernel_rfl)) (fun _ _ _ h => h) (Or.inl ⟨by rfl,?_⟩) ?_ ?_;rotate_left
                    ·intro w';go_simp;with_reducible rfl
                    rotate_left
                    ·simp only [Act.put,List.setIfInBounds_toArray,List.set_cons_zero,List.set_cons_succ,i64_w,i32_w];rfl
                    refine take_ (i := 12) (N := some 63) (v := ?_) (a' := ?_) #[true,true,true,true,true,true,true,true,true,true,true,true,true,false,true,true,true,false,true,false,false,false,false,false] rfl rfl (take_ofW HT_.out HW_.out (by kernel_rfl)) (fun _ _ _ h => h) (Or.inl ⟨by rfl,?_⟩) hHeld ?_ ?_;rotate_left
                    ·rintro w' ⟨s0,s1,s2,s3⟩
                     go_simp;with_reducible rfl
                    rotate_left
                    ·simp only [Act.put,List.setIfInBounds_toArray,List.set_cons_zero,List.set_cons_succ,i64_w,i32_w];rfl
                    refine pure_ (i := 13) (N := some 64) (v := ?_) (a' := ?_) #[true,true,true,true,true,true,true,true,true,true,true,true,true,true,true,true,true,false,true,false,false,false,false,false] rfl rfl (any_of HT_.out (by kernel_rfl)) (fun _ _ _ h => h) (Or.inl ⟨by rfl,?_⟩) ?_ ?_;rotate_left
                    ·intro w';go_simp;with_reducible rfl
                    rotate_left
                    ·simp only [Act.put,List.setIfInBounds_toArray,List.set_cons_zero,List.set_cons_succ,i64_w,i32_w];rfl
                    refine take_ (i := 17) (N := some 68) (v := ?_) (a' := ?_) #[true,true,true,true,true,true,true,true,true,true,true,true,true,true,true,true,true,true,true,false,false,false,false,false] rfl rfl (take_ofW HT_.out HW_.out (by kernel_rfl)) (fun _ _ _ h => h) (Or.inl ⟨by rfl,?_⟩) hHeld ?_ ?_;rotate_left
                    ·rintro w' ⟨s0,s1,s2,s3⟩
                     go_simp;with_reducible rfl
                    rotate_left
                    ·simp only [Act.put,List.setIfInBounds_toArray,List.set_cons_zero,List.set_cons_succ,i64_w,i32_w];rfl
                    refine pure_ (i := 19) (N := some 70) (v := ?_) (a' := ?_) #[true,true,true,true,true,true,true,true,true,true,true,true,true,true,true,true,true,true,true,true,false,false,false,false] rfl rfl (any_of HT_.out (by kernel_rfl)) (fun _ _ _ h => h) (Or.inl ⟨by rfl,?_⟩) ?_ ?_;rotate_left
                    ·intro w';go_simp;with_reducible rfl
                    rotate_left
                    ·simp only [Act.put,List.setIfInBounds_toArray,List.set_cons_zero,List.set_cons_succ,i64_w,i32_w];rfl
                    refine take_ (i := 20) (N := some 71) (v := ?_) (a' := ?_) #[true,true,true,true,true,true,true,true,true,true,true,true,true,true,true,true,true,true,true,true,true,false,false,false] rfl rfl (take_ofW HT_.out HW_.out (by kernel_rfl)) (fun _ _ _ h => h) (Or.inl ⟨by rfl,?_⟩) hHeld ?_ ?_;rotate_left
                    ·rintro w' ⟨s0,s1,s2,s3⟩
                     go_simp;with_reducible rfl
                    rotate_left
                    ·simp only [Act.put,List.setIfInBounds_toArray,List.set_cons_zero,List.set_cons_succ,i64_w,i32_w];rfl
                    refine pure_ (i := 21) (N := some 72) (v := ?_) (a' := ?_) #[true,true,true,true,true,true,true,true,true,true,true,true,true,true,true,true,true,true,true,true,true,true,false,false] rfl rfl (any_of HT_.out (by kernel_rfl)) (fun _ _ _ h => h) (Or.inl ⟨by rfl,?_⟩) ?_ ?_;rotate_left
                    ·intro w';go_simp;with_reducible rfl
                    rotate_left
                    ·simp only [Act.put,List.setIfInBounds_toArray,List.set_cons_zero,List.set_cons_succ,i64_w,i32_w];rfl
                    refine pure_ (i := 22) (N := some 73) (v := ?_) (a' := ?_) #[true,true,true,true,true,true,true,true,true,true,true,true,true,true,true,true,true,true,true,true,true,true,true,false] rfl rfl (any_of HT_.out (by kernel_rfl)) (fun _ _ _ h => h) (Or.inl ⟨by rfl,?_⟩) ?_ ?_;rotate_left
                    ·intro w';go_simp;with_reducible rfl
                    rotate_left
                    ·simp only [Act.put,List.setIfInBounds_toArray,List.set_cons_zero,List.set_cons_succ,i64_w,i32_w];rfl
                    refine pure_ (i := 23) (N := some 50) (v := ?_) (a' := ?_) #[true,true,true,true,true,true,true,true,true,true,true,true,true,true,true,true,true,true,true,true,true,true,true,true] rfl rfl (any_of HT_.out (by kernel_rfl)) (fun _ _ _ h => h) (Or.inl ⟨by rfl,?_⟩) ?_ ?_;rotate_left
                    ·intro w';go_simp;with_reducible rfl
                    rotate_left
                    ·simp only [Act.put,List.setIfInBounds_toArray,List.set_cons_zero,List.set_cons_succ,i64_w,i32_w];rfl
                    refine done_ (done_of HT_.out (by kernel_rfl)) ?_;(try go_wp2)
                    go_meet
                    case rel => exact ⟨_,(((wrap64 (x9_11 + (rd (rd_L6 t101 (ji23)) (ji26)))) == (rd (rd_L6 t101 x7_1) x8_1))),(by first | rfl | (simp only [IntKind.wrap_i64,wrap64];done) | (simp;done) | (simp only [← hji23,← hji26] <;> (first | rfl | simp)) | (simp [*];done)),H',⟨by have := HK1.out;have := HJ6.out;have := HJ9.out;have := HJ11.out;first | omega | exact Nat.le_refl _⟩,⟨by (with_reducible repeat (first | apply Kd.S_alloc | apply Kd.S_drewN | apply Kd.S_drew));exact HO_5.out⟩,⟨by (with_reducible repeat (first | apply Kd.R_alloc | apply Kd.R_drewN | apply Kd.R_drew));exact HO_6.out⟩,⟨by repeat (first | (with_reducible first | exact HB.out | apply below_alloc | apply pw_below_drewN | apply below_drew1) | exact HB.out)⟩⟩
                   ·rw [if_neg c32] at H;exact absurd H (by simp)
                  ·rw [if_neg c31] at H;exact absurd H (by simp)
                 ·rw [if_neg c30] at H;exact absurd H (by simp)
                ·rw [if_neg c29] at H;exact absurd H (by simp)
               ·rw [if_neg c28] at H;exact absurd H (by simp)
              ·rw [if_neg c27] at H;exact absurd H (by simp)
             ·rw [if_neg c25] at H;exact absurd H (by simp)
            ·rw [if_neg c24] at H;exact absurd H (by simp)
           ·rw [if_neg c22] at H;have c22b0 : decide (0 ≤ x9_11) = false := decide_eq_false c22;clear c22;(first | rw [c22b0] | (simp only [i64_w,i32_w];rw [c22b0]) | skip);have H' := Aside0.mk H;clear H;(try go_wp2);have n0_ := Aside0.mk (Kd.S_drew HO_5.out);have n1_ := Aside0.mk (Kd.R_drew HO_6.out);have n2_ := Aside0.mk (below_drew1 HB.out);clear HO_5;clear HO_6;clear HB;have HO_5 := n0_;have HO_6 := n1_;have HB := n2_;clear n0_ n1_ n2_;refine start_ (n := 24) (S := fun w' => True) (ds := []) #[false,false,false,false,false,false,false,false,false,false,false,false,false,false,false,false,false,false,false,false,false,false,false,false] (by kernel_rfl) rfl rfl trivial (fun hHeld => ?_);refine with_tabW spec_l07Story.tab11 spec_l07Story.bits11 (fun HT_ HW_ => ?_);generalize wc.drew = w35 at HO_5 HO_6 HB hHeld ⊢;refine pure_ (i := 0) (N := some 51) (v := ?_) (a' := ?_) #[true,false,false,false,false,false,false,false,false,false,false,false,false,false,false,false,false,false,false,false,false,false,false,false] rfl rfl (any_of HT_.out (by kernel_rfl)) (fun _ _ _ h => h) (Or.inl ⟨by rfl,?_⟩) ?_ ?_;rotate_left
            ·intro w';go_simp;with_reducible rfl
            rotate_left
            ·simp only [Act.put,List.setIfInBounds_toArray,List.set_cons_zero,List.set_cons_succ,i64_w,i32_w];rfl
            refine pure_ (i := 1) (N := some 52) (v := ?_) (a' := ?_) #[true,true,false,false,false,false,false,false,false,false,false,false,false,false,false,false,false,false,false,false,false,false,false,false] rfl rfl (any_of HT_.out (by kernel_rfl)) (fun _ _ _ h => h) (Or.inl ⟨by rfl,?_⟩) ?_ ?_;rotate_left
            ·intro w';go_simp;with_reducible rfl
            rotate_left
            ·simp only [Act.put,List.setIfInBounds_toArray,List.set_cons_zero,List.set_cons_succ,i64_w,i32_w];rfl
            refine pure_ (i := 2) (N := some 53) (v := ?_) (a' := ?_) #[true,true,true,false,false,false,false,false,false,false,false,false,false,false,false,false,false,false,false,false,false,false,false,false] rfl rfl (any_of HT_.out (by kernel_rfl)) (fun _ _ _ h => h) (Or.inl ⟨by rfl,?_⟩) ?_ ?_;rotate_left
            ·intro w';go_simp;with_reducible rfl
            rotate_left
            ·simp only [Act.put,List.setIfInBounds_toArray,List.set_cons_zero,List.set_cons_succ,i64_w,i32_w];rfl
            refine pure_ (i := 3) (N := some 54) (v := undef) (a' := ?_) #[true,true,true,true,false,false,false,false,false,false,false,false,false,false,false,false,false,false,false,false,false,false,false,false] rfl rfl (any_of HT_.out (by kernel_rfl)) (fun _ _ _ h => h) (Or.inr ⟨by rfl,rfl⟩) ?_ ?_;rotate_left
            ·simp only [Act.put,List.setIfInBounds_toArray,List.set_cons_zero,List.set_cons_succ,i64_w,i32_w];rfl
            refine pure_ (i := 4) (N := some 55) (v := undef) (a' := ?_) #[true,true,true,true,true,false,false,false,false,false,false,false,false,false,false,false,false,false,false,false,false,false,false,false] rfl rfl (any_of HT_.out (by kernel_rfl)) (fun _ _ _ h => h) (Or.inr ⟨by rfl,rfl⟩) ?_ ?_;rotate_left
            ·simp only [Act.put,List.setIfInBounds_toArray,List.set_cons_zero,List.set_cons_succ,i64_w,i32_w];rfl
            refine pure_ (i := 5) (N := some 56) (v := undef) (a' := ?_) #[true,true,true,true,true,true,false,false,false,false,false,false,false,false,false,false,false,false,false,false,false,false,false,false] rfl rfl (any_of HT_.out (by kernel_rfl)) (fun _ _ _ h => h) (Or.inr ⟨by rfl,rfl⟩) ?_ ?_;rotate_left
            ·simp only [Act.put,List.setIfInBounds_toArray,List.set_cons_zero,List.set_cons_succ,i64_w,i32_w];rfl
            refine pure_ (i := 6) (N := some 57) (v := undef) (a' := ?_) #[true,true,true,true,true,true,true,false,false,false,false,false,false,false,false,false,false,false,false,false,false,false,false,false] rfl rfl (any_of HT_.out (by kernel_rfl)) (fun _ _ _ h => h) (Or.inr ⟨by rfl,rfl⟩) ?_ ?_;rotate_left
            ·simp only [Act.put,List.setIfInBounds_toArray,List.set_cons_zero,List.set_cons_succ,i64_w,i32_w];rfl
            refine pure_ (i := 7) (N := some 58) (v := undef) (a' := ?_) #[true,true,true,true,true,true,true,true,false,false,false,false,false,false,false,false,false,false,false,false,false,false,false,false] rfl rfl (any_of HT_.out (by kernel_rfl)) (fun _ _ _ h => h) (Or.inr ⟨by rfl,rfl⟩) ?_ ?_;rotate_left
            ·simp only [Act.put,List.setIfInBounds_toArray,List.set_cons_zero,List.set_cons_succ,i64_w,i32_w];rfl
            refine pure_ (i := 8) (N := some 59) (v := undef) (a' := ?_) #[true,true,true,true,true,true,true,true,true,false,false,false,false,false,false,false,false,false,false,false,false,false,false,false] rfl rfl (any_of HT_.out (by kernel_rfl)) (fun _ _ _ h => h) (Or.inr ⟨by rfl,rfl⟩) ?_ ?_;rotate_left
            ·simp only [Act.put,List.setIfInBounds_toArray,List.set_cons_zero,List.set_cons_succ,i64_w,i32_w];rfl
            refine pure_ (i := 9) (N := some 60) (v := undef) (a' := ?_) #[true,true,true,true,true,true,true,true,true,true,false,false,false,false,false,false,false,false,false,false,false,false,false,false] rfl rfl (any_of HT_.out (by kernel_rfl)) (fun _ _ _ h => h) (Or.inr ⟨by rfl,rfl⟩) ?_ ?_;rotate_left
            ·simp only [Act.put,List.setIfInBounds_toArray,List.set_cons_zero,List.set_cons_succ,i64_w,i32_w];rfl
            refine pure_ (i := 10) (N := some 61) (v := undef) (a' := ?_) #[true,true,true,true,true,true,true,true,true,true,true,false,false,false,false,false,false,false,false,false,false,false,false,false] rfl rfl (any_of HT_.out (by kernel_rfl)) (fun _ _ _ h => h) (Or.inr ⟨by rfl,rfl⟩) ?_ ?_;rotate_left
            ·simp only [Act.put,List.setIfInBounds_toArray,List.set_cons_zero,List.set_cons_succ,i64_w,i32_w];rfl
            refine pure_ (i := 11) (N := some 62) (v := undef) (a' := ?_) #[true,true,true,true,true,true,true,true,true,true,true,true,false,false,false,false,false,false,false,false,false,false,false,false] rfl rfl (any_of HT_.out (by kernel_rfl)) (fun _ _ _ h => h) (Or.inr ⟨by rfl,rfl⟩) ?_ ?_;rotate_left
            ·simp only [Act.put,List.setIfInBounds_toArray,List.set_cons_zero,List.set_cons_succ,i64_w,i32_w];rfl
            refine pure_ (i := 12) (N := some 63) (v := undef) (a' := ?_) #[true,true,true,true,true,true,true,true,true,true,true,true,true,false,false,false,false,false,false,false,false,false,false,false] rfl rfl (any_of HT_.out (by kernel_rfl)) (fun _ _ _ h => h) (Or.inr ⟨by rfl,rfl⟩) ?_ ?_;rotate_left
            ·simp only [Act.put,List.setIfInBounds_toArray,List.set_cons_zero,List.set_cons_succ,i64_w,i32_w];rfl
            refine pure_ (i := 13) (N := some 64) (v := undef) (a' := ?_) #[true,true,true,true,true,true,true,true,true,true,true,true,true,true,false,false,false,false,false,false,false,false,false,false] rfl rfl (any_of HT_.out (by kernel_rfl)) (fun _ _ _ h => h) (Or.inr ⟨by rfl,rfl⟩) ?_ ?_;rotate_left
            ·simp only [Act.put,List.setIfInBounds_toArray,List.set_cons_zero,List.set_cons_succ,i64_w,i32_w];rfl
            refine pure_ (i := 14) (N := some 65) (v := undef) (a' := ?_) #[true,true,true,true,true,true,true,true,true,true,true,true,true,true,true,false,false,false,false,false,false,false,false,false] rfl rfl (any_of HT_.out (by kernel_rfl)) (fun _ _ _ h => h) (Or.inr ⟨by rfl,rfl⟩) ?_ ?_;rotate_left
            ·simp only [Act.put,List.setIfInBounds_toArray,List.set_cons_zero,List.set_cons_succ,i64_w,i32_w];rfl
            refine pure_ (i := 15) (N := some 66) (v := undef) (a' := ?_) #[true,true,true,true,true,true,true,true,true,true,true,true,true,true,true,true,false,false,false,false,false,false,false,false] rfl rfl (any_of HT_.out (by kernel_rfl)) (fun _ _ _ h => h) (Or.inr ⟨by rfl,rfl⟩) ?_ ?_;rotate_left
            ·simp only [Act.put,List.setIfInBounds_toArray,List.set_cons_zero,List.set_cons_succ,i64_w,i32_w];rfl
            refine pure_ (i := 16) (N := some 67) (v := undef) (a' := ?_) #[true,true,true,true,true,true,true,true,true,true,true,true,true,true,true,true,true,false,false,false,false,false,false,false] rfl rfl (any_of HT_.out (by kernel_rfl)) (fun _ _ _ h => h) (Or.inr ⟨by rfl,rfl⟩) ?_ ?_;rotate_left
            ·simp only [Act.put,List.setIfInBounds_toArray,List.set_cons_zero,List.set_cons_succ,i64_w,i32_w];rfl
            refine pure_ (i := 17) (N := some 68) (v := undef) (a' := ?_) #[true,true,true,true,true,true,true,true,true,true,true,true,true,true,true,true,true,true,false,false,false,false,false,false] rfl rfl (any_of HT_.out (by kernel_rfl)) (fun _ _ _ h => h) (Or.inr ⟨by rfl,rfl⟩) ?_ ?_;rotate_left
            ·simp only [Act.put,List.setIfInBounds_toArray,List.set_cons_zero,List.set_cons_succ,i64_w,i32_w];rfl
            refine pure_ (i := 18) (N := some 69) (v := undef) (a' := ?_) #[true,true,true,true,true,true,true,true,true,true,true,true,true,true,true,true,true,true,true,false,false,false,false,false] rfl rfl (any_of HT_.out (by kernel_rfl)) (fun _ _ _ h => h) (Or.inr ⟨by rfl,rfl⟩) ?_ ?_;rotate_left
            ·simp only [Act.put,List.setIfInBounds_toArray,List.set_cons_zero,List.set_cons_succ,i64_w,i32_w];rfl
            refine pure_ (i := 19) (N := some 70) (v := undef) (a' := ?_) #[true,true,true,true,true,true,true,true,true,true,true,true,true,true,true,true,true,true,true,true,false,false,false,false] rfl rfl (any_of HT_.out (by kernel_rfl)) (fun _ _ _ h => h) (Or.inr ⟨by rfl,rfl⟩) ?_ ?_;rotate_left
            ·simp only [Act.put,List.setIfInBounds_toArray,List.set_cons_zero,List.set_cons_succ,i64_w,i32_w];rfl
            refine pure_ (i := 20) (N := some 71) (v := undef) (a' := ?_) #[true,true,true,true,true,true,true,true,true,true,true,true,true,true,true,true,true,true,true,true,true,false,false,false] rfl rfl (any_of HT_.out (by kernel_rfl)) (fun _ _ _ h => h) (Or.inr ⟨by rfl,rfl⟩) ?_ ?_;rotate_left
            ·simp only [Act.put,List.setIfInBounds_toArray,List.set_cons_zero,List.set_cons_succ,i64_w,i32_w];rfl
            refine pure_ (i := 21) (N := some 72) (v := undef) (a' := ?_) #[true,true,true,true,true,true,true,true,true,true,true,true,true,true,true,true,true,true,true,true,true,true,false,false] rfl rfl (any_of HT_.out (by kernel_rfl)) (fun _ _ _ h => h) (Or.inr ⟨by rfl,rfl⟩) ?_ ?_;rotate_left
            ·simp only [Act.put,List.setIfInBounds_toArray,List.set_cons_zero,List.set_cons_succ,i64_w,i32_w];rfl
            refine pure_ (i := 22) (N := some 73) (v := ?_) (a' := ?_) #[true,true,true,true,true,true,true,true,true,true,true,true,true,true,true,true,true,true,true,true,true,true,true,false] rfl rfl (any_of HT_.out (by kernel_rfl)) (fun _ _ _ h => h) (Or.inl ⟨by rfl,?_⟩) ?_ ?_;rotate_left
            ·intro w';go_simp;with_reducible rfl
            rotate_left
            ·simp only [Act.put,List.setIfInBounds_toArray,List.set_cons_zero,List.set_cons_succ,i64_w,i32_w];rfl
            refine pure_ (i := 23) (N := some 50) (v := ?_) (a' := ?_) #[true,true,true,true,true,true,true,true,true,true,true,true,true,true,true,true,true,true,true,true,true,true,true,true] rfl rfl (any_of HT_.out (by kernel_rfl)) (fun _ _ _ h => h) (Or.inl ⟨by rfl,?_⟩) ?_ ?_;rotate_left
            ·intro w';go_simp;with_reducible rfl
            rotate_left
            ·simp only [Act.put,List.setIfInBounds_toArray,List.set_cons_zero,List.set_cons_succ,i64_w,i32_w];rfl
            refine done_ (done_of HT_.out (by kernel_rfl)) ?_;(try go_wp2)
            go_meet
            case rel => exact ⟨_,(false),(by first | rfl | (simp only [IntKind.wrap_i64,wrap64];done) | (simp;done) | (simp [*];done)),H',⟨by have := HK1.out;have := HJ6.out;have := HJ9.out;have := HJ11.out;first | omega | exact Nat.le_refl _⟩,⟨by (with_reducible repeat (first | apply Kd.S_alloc | apply Kd.S_drewN | apply Kd.S_drew));exact HO_5.out⟩,⟨by (with_reducible repeat (first | apply Kd.R_alloc | apply Kd.R_drewN | apply Kd.R_drew));exact HO_6.out⟩,⟨by repeat (first | (with_reducible first | exact HB.out | apply below_alloc | apply pw_below_drewN | apply below_drew1) | exact HB.out)⟩⟩
          case rest =>
           clear HC21;(try clear c1);(try clear p1);(try clear q1);(try clear hx1);(try clear c2);(try clear p2);(try clear c3);(try clear p6);(try clear c8);(try clear c8b0);(try clear c9);(try clear p10);(try clear q10);(try clear hx10);(try clear c11);(try clear c11b0);(try clear p11);(try clear q11);(try clear hx11);(try clear c13);(try clear c14);(try clear c14b0);(try clear c15);(try clear c15b0);(try clear c16);(try clear c16b0);(try clear c17);(try clear c17b0);(try clear c22);(try clear c22b0);(try clear c24);(try clear c24b0);(try clear c25);(try clear c25b0);(try clear c27);(try clear c27b0);(try clear c28);(try clear c28b0);(try clear c29);(try clear c29b0);(try clear c30);(try clear c30b0);(try clear c31);(try clear c31b0);(try clear c32);(try clear c32b0);(try clear hx107_0);(try clear hx107_1);(try clear hx107_2);(try clear hx108_0);(try clear hx108_1);(try clear hx108_2);(try clear hx110_0);(try clear hx111_0);(try clear hx112_0);(try clear hx113_0);(try clear p1);(try clear p10);(try clear p107);(try clear p108);(try clear p110);(try clear p111);(try clear p112);(try clear p113);(try clear p2);(try clear q1);(try clear q10);(try clear q107);(try clear q108);(try clear q110);(try clear q111);(try clear q112);(try clear q113);obtain ⟨kq,x50_20,rfl,HA,HJ20,HO_5,HO_6,HB⟩ := hcut
           cases kq with
           | zero => exact absurd HA.out (by simp [spec_l07Story.j4])
           | succ kj20 =>
            have H := HA.out;clear HA;simp only [spec_l07Story.j4] at H
            by_cases c36 : x50_20 = true
            ·subst c36
             have H1 : (if x6_1.length < 8796093022208 then (spec_l07Story.l0 kj20 l0 l1 t101 (x6_1 ++ [(⟨x7_1,x8_1⟩ : S100)]) (wrap64 (x7_1 + 1)) (wrap64 (x8_1 + 1))) else (none)) = some r := by rw [if_pos rfl] at H;exact H
             clear H;have H := H1;clear H1
             by_cases c37 : x6_1.length < 8796093022208
             ·rw [if_pos c37] at H;have LMc37 := Aside0.mk c37;clear c37;obtain ⟨y114,hy114⟩ : ∃ y_ : List (S100),y_ = (x6_1 ++ [(⟨x7_1,x8_1⟩ : S100)]) := ⟨_,rfl⟩
              replace H : (spec_l07Story.l0 kj20 l0 l1 t101 y114 (wrap64 (x7_1 + 1)) (wrap64 (x8_1 + 1))) = some r := by first | (rw [hy114];with_reducible exact H) | (have H2_ := (Option.bind_some _ _).symm.trans H;rw [hy114];with_reducible exact H2_) | (have H2_ := (Option.bind_some _ _).symm.trans H;with_reducible exact H2_) | with_reducible exact H | (rw [hy114];exact H) | exact H
              have Ny114 := Aside0.mk hy114;clear hy114;have H' := Aside0.mk H;clear H
              go_wp2_with (first | ((with_reducible refine gate_builtin (b := .append) (xs := #[.tmp 74,.tmp 78]) rfl ?_);(try (refine gate_guard (by rfl) ?_;dsimp only));at_builtin;refine Kd.R_append k100 (w0 := w) w.heap.size rfl (.tmp 74) (.tmp 78) 52 100 (.agg #[(.int .i64 0),(.int .i64 0)]) 16 rfl Try.underlying52 info100 rfl (by decide) (by omega) u6 x6_1 (⟨x7_1,x8_1⟩ : S100) [.int .i64 x7_1,.int .i64 x8_1] (fun _ => True) (fun _ => False) rfl rfl ?aP (fun _ hk => hk.elim) ?aF ?aO ?aB ?aS ?aL ?_;(case aP => exact k100_mkM _ _ _ (⟨x7_1,x8_1⟩ : S100));(case aB => exact (by repeat (first | (with_reducible first | exact HB.out | apply below_alloc | apply pw_below_drewN | apply below_drew1) | exact HB.out)));(case aF => exact (fun _ _ => trivial));(case aO => exact (by (with_reducible repeat (first | apply Kd.R_alloc | apply Kd.R_drewN | apply Kd.R_drew));exact HO_6.out));(case aS => exact (below_size (by repeat (first | (with_reducible first | exact HB.out | apply below_alloc | apply pw_below_drewN | apply below_drew1) | exact HB.out))));(case aL => have := LMc37.out;omega);intro v115 w38 ho hb hg hat;rw [← Ny114.out] at ho;have n0_ := Aside0.mk (Kd.S_over' (by (with_reducible repeat (first | apply Kd.S_alloc | apply Kd.S_drewN | apply Kd.S_drew));exact HO_5.out) (Kd.R_typed (by (with_reducible repeat (first | apply Kd.R_alloc | apply Kd.R_drewN | apply Kd.R_drew));exact HO_6.out)) (by decide) hg);have n1_ := Aside0.mk (hb);have n2_ := Aside0.mk (ho);clear HO_5;clear HB;clear HO_6;have HO_5 := n0_;have HB := n1_;have HO116 := n2_;clear n0_ n1_ n2_;clear ho hb hg hat))
              go_roundg kj20
              case measure => have := HK1.out;have := HJ6.out;have := HJ9.out;have := HJ11.out;have := HJ20.out;omega
              case rel => exact ⟨(y114),(wrap64 (x7_1 + 1)),(wrap64 (x8_1 + 1)),(by first | rfl | (simp only [IntKind.wrap_i64,wrap64];done) | (simp;done) | (simp [*];done)),(by first | rfl | (simp only [IntKind.wrap_i64,wrap64];done) | (simp;done) | (simp [*];done)),H',⟨by have := HK1.out;have := HJ6.out;have := HJ9.out;have := HJ11.out;have := HJ20.out;omega⟩,⟨by (with_reducible repeat (first | apply Kd.S_alloc | apply Kd.S_drewN | apply Kd.S_drew));exact HO_5.out⟩,⟨by (with_reducible repeat (first | apply Kd.R_alloc | apply Kd.R_drewN | apply Kd.R_drew));exact HO116.out⟩,⟨by repeat (first | (with_reducible first | exact HB.out | apply below_alloc | apply pw_below_drewN | apply below_drew1) | exact HB.out)⟩⟩
             ·rw [if_neg c37] at H;exact absurd H (by simp)
            ·replace c36 := Bool.eq_false_iff.mpr c36;subst c36
             have H1 : (if x7_1 < (l0.length : Int) then (if 0 ≤ (wrap64 (x7_1 + 1)) then (if (wrap64 (x7_1 + 1)) < (t101.length : Int) then (if 0 ≤ x8_1 then (if x8_1 < ((rd_L6 t101 (wrap64 (x7_1 + 1))).length : Int) then (if 0 ≤ x7_1 then (if x7_1 < (t101.length : Int) then (if x8_1 < ((rd_L6 t101 x7_1).length : Int) then (if (wrap64 (1 + (rd (rd_L6 t101 (wrap64 (x7_1 + 1))) x8_1))) = (rd (rd_L6 t101 x7_1) x8_1) then (if x6_1.length < 8796093022208 then (spec_l07Story.l0 kj20 l0 l1 t101 (x6_1 ++ [(⟨x7_1,(-1)⟩ : S100)]) (wrap64 (x7_1 + 1)) x8_1) else (none)) else (if x6_1.length < 8796093022208 then (spec_l07Story.l0 kj20 l0 l1 t101 (x6_1 ++ [(⟨(-1),x8_1⟩ : S100)]) x7_1 (wrap64 (x8_1 + 1))) else (none))) else (none)) else (none)) else (none)) else (none)) else (none)) else (none)) else (none)) else (if x6_1.length < 8796093022208 then (spec_l07Story.l0 kj20 l0 l1 t101 (x6_1 ++ [(⟨(-1),x8_1⟩ : S100)]) x7_1 (wrap64 (x8_1 + 1))) else (none))) = some r := by rw [if_neg (show ¬ (false = true) by decide)] at H;exact H
             clear H;have H := H1;clear H1
             by_cases c39 : x7_1 < (l0.length : Int)
             ·rw [if_pos c39] at H;have c39b0 : decide (x7_1 < (l0.length : Int)) = true := decide_eq_true c39;clear c39;obtain ⟨ji40,hji40⟩ : ∃ j_ : Int,(wrap64 (x7_1 + 1)) = j_ := ⟨_,rfl⟩
              replace H : (if 0 ≤ (ji40) then (if (ji40) < (t101.length : Int) then (if 0 ≤ x8_1 then (if x8_1 < ((rd_L6 t101 (ji40)).length : Int) then (if 0 ≤ x7_1 then (if x7_1 < (t101.length : Int) then (if x8_1 < ((rd_L6 t101 x7_1).length : Int) then (if (wrap64 (1 + (rd (rd_L6 t101 (ji40)) x8_1))) = (rd (rd_L6 t101 x7_1) x8_1) then (if x6_1.length < 8796093022208 then (spec_l07Story.l0 kj20 l0 l1 t101 (x6_1 ++ [(⟨x7_1,(-1)⟩ : S100)]) ji40 x8_1) else (none)) else (if x6_1.length < 8796093022208 then (spec_l07Story.l0 kj20 l0 l1 t101 (x6_1 ++ [(⟨(-1),x8_1⟩ : S100)]) x7_1 (wrap64 (x8_1 + 1))) else (none))) else (none)) else (none)) else (none)) else (none)) else (none)) else (none)) else (none)) = some r := by first | (rw [hji40] at H;exact H) | (simp only [hji40] at H ⊢;exact H)
              have hji40w : (IntKind.i64.wrap (x7_1 + 1)) = ji40 := (i64_w _).trans hji40
              by_cases c41 : 0 ≤ (ji40)
              ·rw [if_pos c41] at H;have c41b0 : decide (0 ≤ (ji40)) = true := decide_eq_true c41;clear c41
               by_cases c42 : (ji40) < (t101.length : Int)
               ·rw [if_pos c42] at H;have c42b0 : decide ((ji40) < (t101.length : Int)) = true := decide_eq_true c42;clear c42
                by_cases c43 : 0 ≤ x8_1
                ·rw [if_pos c43] at H;have c43b0 : decide (0 ≤ x8_1) = true := decide_eq_true c43;clear c43
                 by_cases c44 : x8_1 < ((rd_L6 t101 (ji40)).length : Int)
                 ·rw [if_pos c44] at H;have c44b0 : decide (x8_1 < ((rd_L6 t101 (ji40)).length : Int)) = true := decide_eq_true c44;clear c44
                  by_cases c45 : 0 ≤ x7_1
                  ·rw [if_pos c45] at H;have c45b0 : decide (0 ≤ x7_1) = true := decide_eq_true c45;clear c45
                   by_cases c46 : x7_1 < (t101.length : Int)
                   ·rw [if_pos c46] at H;have c46b0 : decide (x7_1 < (t101.length : Int)) = true := decide_eq_true c46;clear c46
                    by_cases c47 : x8_1 < ((rd_L6 t101 x7_1).length : Int)
                    ·rw [if_pos c47] at H;have c47b0 : decide (x8_1 < ((rd_L6 t101 x7_1).length : Int)) = true := decide_eq_true c47;clear c47
                     by_cases c48 : (wrap64 (1 + (rd (rd_L6 t101 (ji40)) x8_1))) = (rd (rd_L6 t101 x7_1) x8_1)
                     ·rw [if_pos c48] at H;have c48b0 : ((wrap64 (1 + (rd (rd_L6 t101 (ji40)) x8_1))) == (rd (rd_L6 t101 x7_1) x8_1)) = true := beq_iff_eq.mpr c48;have c48b1 : ((wrap64 (1 + (rd (rd_L6 t101 (ji40)) x8_1))) != (rd (rd_L6 t101 x7_1) x8_1)) = false := bne_eq_false_iff_eq.mpr c48;clear c48
                      by_cases c49 : x6_1.length < 8796093022208
                      ·rw [if_pos c49] at H;have LMc49 := Aside0.mk c49;clear c49;obtain ⟨y121,hy121⟩ : ∃ y_ : List (S100),y_ = (x6_1 ++ [(⟨x7_1,(-1)⟩ : S100)]) := ⟨_,rfl⟩
                       replace H : (spec_l07Story.l0 kj20 l0 l1 t101 y121 ji40 x8_1) = some r := by first | (rw [hy121];with_reducible exact H) | (have H2_ := (Option.bind_some _ _).symm.trans H;rw [hy121];with_reducible exact H2_) | (have H2_ := (Option.bind_some _ _).symm.trans H;with_reducible exact H2_) | with_reducible exact H | (rw [hy121];exact H) | exact H
                       have Ny121 := Aside0.mk hy121;clear hy121;have H' := Aside0.mk H;clear H;(try go_wp2);have n0_ := Aside0.mk (Kd.S_drew HO_5.out);have n1_ := Aside0.mk (Kd.R_drew HO_6.out);have n2_ := Aside0.mk (below_drew1 HB.out);clear HO_5;clear HO_6;clear HB;have HO_5 := n0_;have HO_6 := n1_;have HB := n2_;clear n0_ n1_ n2_;obtain ⟨Ao51,co51,eo51⟩ := Kd.S_slice HO_5.out;(first | subst eo51 | (injection eo51 with f1_ f2_ f3_;have f4_ := f1_.symm;have f5_ := f3_.symm;clear f1_ f2_ f3_;subst f4_;subst f5_));have p117 : 0 ≤ ((ji40) : Int) := of_decide_eq_true (by first | (with_reducible assumption) | assumption);have q117 : (ji40) < (t101.length : Int) := of_decide_eq_true (by first | (with_reducible assumption) | assumption);obtain ⟨ad117,A117_0,c117_0,e117,hx117_0,hl117_0,hi117_0⟩ := at_L6 (Kd.S_reads' HO_5.out).2.2 (ji40) p117 q117;cases e117;obtain ⟨ce117,hce117,hMe117,hcc117⟩ := Kd.S_get HO_5.out [] (ji40) p117 (by first | exact q117 | exact of_decide_eq_true (by first | (with_reducible assumption) | assumption) | (have e_ := (Kd.S_reads' HO_5.out).1;omega));obtain ⟨ve117_0,rfl,ge117_0⟩ := hMe117;have hv117_0 := hcc117 0 _ rfl;rw [Nat.add_zero,show ((Kd.slice 2 (Kd.int .i64))).sz = 1 from rfl,Nat.mul_one] at hv117_0;replace hv117_0 := Option.some.inj (hv117_0.symm.trans hx117_0);rw [hv117_0] at ge117_0;have HL117_0 := Aside0.mk (show Kd.R (Kd.int .i64) 2 _ _ _ _ (rd_L6 t101 (ji40)) from ge117_0);clear hv117_0 ge117_0;clear hcc117 hce117;have HR117_0 := Aside0.mk hi117_0;have HC117_0 := Aside0.mk hl117_0;clear hi117_0 hl117_0;replace p117 := eq_true p117;replace q117 := eq_true q117;have p118 : 0 ≤ (x8_1 : Int) := of_decide_eq_true (by first | (with_reducible assumption) | assumption);have q118 : x8_1 < ((rd_L6 t101 (ji40)).length : Int) := of_decide_eq_true (by first | (with_reducible assumption) | assumption);obtain ⟨ad118,e118,hx118_0⟩ := Kd.at_int (by repeat (first | (with_reducible exact HR117_0.out) | (with_reducible refine Kd.C_alloc ?_ _) | (with_reducible refine Kd.C_drewN ?_ _) | (with_reducible refine Kd.C_drew ?_) | exact HR117_0.out)) x8_1 p118 q118;cases e118;replace p118 := eq_true p118;replace q118 := eq_true q118;have p119 : 0 ≤ (x7_1 : Int) := of_decide_eq_true (by first | (with_reducible assumption) | assumption);have q119 : x7_1 < (t101.length : Int) := of_decide_eq_true (by first | (with_reducible assumption) | assumption);obtain ⟨ad119,A119_0,c119_0,e119,hx119_0,hl119_0,hi119_0⟩ := at_L6 (Kd.S_reads' HO_5.out).2.2 x7_1 p119 q119;obtain rfl : ad117 = ad119 := (by injection e119);obtain ⟨ce119,hce119,hMe119,hcc119⟩ := Kd.S_get HO_5.out [] x7_1 p119 (by first | exact q119 | exact of_decide_eq_true (by first | (with_reducible assumption) | assumption) | (have e_ := (Kd.S_reads' HO_5.out).1;omega));obtain ⟨ve119_0,rfl,ge119_0⟩ := hMe119;have hv119_0 := hcc119 0 _ rfl;rw [Nat.add_zero,show ((Kd.slice 2 (Kd.int .i64))).sz = 1 from rfl,Nat.mul_one] at hv119_0;replace hv119_0 := Option.some.inj (hv119_0.symm.trans hx119_0);rw [hv119_0] at ge119_0;have HL119_0 := Aside0.mk (show Kd.R (Kd.int .i64) 2 _ _ _ _ (rd_L6 t101 x7_1) from ge119_0);clear hv119_0 ge119_0;clear hcc119 hce119;have HR119_0 := Aside0.mk hi119_0;have HC119_0 := Aside0.mk hl119_0;clear hi119_0 hl119_0;replace p119 := eq_true p119;replace q119 := eq_true q119;have p120 : 0 ≤ (x8_1 : Int) := of_decide_eq_true (by first | (with_reducible assumption) | assumption);have q120 : x8_1 < ((rd_L6 t101 x7_1).length : Int) := of_decide_eq_true (by first | (with_reducible assumption) | assumption);obtain ⟨ad120,e120,hx120_0⟩ := Kd.at_int (by repeat (first | (with_reducible exact HR119_0.out) | (with_reducible refine Kd.C_alloc ?_ _) | (with_reducible refine Kd.C_drewN ?_ _) | (with_reducible refine Kd.C_drew ?_) | exact HR119_0.out)) x8_1 p120 q120;cases e120;replace p120 := eq_true p120;replace q120 := eq_true q120;refine start_ (n := 24) (S := fun w' => w'.cell? (ad117.add ((ji40)).toNat) = some (.slice (some ad118) (rd_L6 t101 (ji40)).length c117_0) ∧ w'.cell? (ad118.add (x8_1).toNat) = some (.int .i64 (rd (rd_L6 t101 (ji40)) x8_1)) ∧ w'.cell? (ad117.add (x7_1).toNat) = some (.slice (some ad120) (rd_L6 t101 x7_1).length c119_0) ∧ w'.cell? (ad120.add (x8_1).toNat) = some (.int .i64 (rd (rd_L6 t101 x7_1) x8_1))) (ds := []) #[false,false,false,false,false,false,false,false,false,false,false,false,false,false,false,false,false,false,false,false,false,false,false,false] (by kernel_rfl) rfl rfl ⟨hx117_0,hx118_0,hx119_0,hx120_0⟩ (fun hHeld => ?_);refine with_tabW spec_l07Story.tab15 spec_l07Story.bits15 (fun HT_ HW_ => ?_);generalize wc.drew = w50 at HO_5 HO_6 HB HL117_0 HL119_0 HR117_0 HR119_0 hx117_0 hx118_0 hx119_0 hx120_0 hHeld ⊢;refine pure_ (i := 0) (N := some 85) (v := ?_) (a' := ?_) #[true,false,false,false,false,false,false,false,false,false,false,false,false,false,false,false,false,false,false,false,false,false,false,false] rfl rfl (any_of HT_.out (by kernel_rfl)) (fun _ _ _ h => h) (Or.inl ⟨by rfl,?_⟩) ?_ ?_;rotate_left
                       ·intro w';go_simp;with_reducible rfl
                       rotate_left
                       ·simp only [Act.put,List.setIfInBounds_toArray,List.set_cons_zero,List.set_cons_succ,i64_w,i32_w];rfl
                       refine pure_ (i := 1) (N := some 86) (v := ?_) (a' := ?_) #[true,true,false,false,false,false,false,false,false,false,false,false,false,false,false,false,false,false,false,false,false,false,false,false] rfl rfl (any_of HT_.out (by kernel_rfl)) (fun _ _ _ h => h) (Or.inl ⟨by rfl,?_⟩) ?_ ?_;rotate_left
                       ·intro w';go_simp;with_reducible rfl
                       rotate_left
                       ·simp only [Act.put,List.setIfInBounds_toArray,List.set_cons_zero,List.set_cons_succ,i64_w,i32_w];rfl
                       refine pure_ (i := 2) (N := some 87) (v := ?_) (a' := ?_) #[true,true,true,false,false,false,false,false,false,false,false,false,false,false,false,false,false,false,false,false,false,false,false,false] rfl rfl (any_of HT_.out (by kernel_rfl)) (fun _ _ _ h => h) (Or.inl ⟨by rfl,?_⟩) ?_ ?_;rotate_left
                       ·intro w';go_simp;with_reducible rfl
                       rotate_left
                       ·simp only [Act.put,List.setIfInBounds_toArray,List.set_cons_zero,List.set_cons_succ,i64_w,i32_w];rfl
                       refine pure_ (i := 3) (N := some 88) (v := ?_) (a' := ?_) #[true,true,true,true,false,false,false,false,false,false,false,false,false,false,false,false,false,false,false,false,false,false,false,false] rfl rfl (any_of HT_.out (by kernel_rfl)) (fun _ _ _ h => h) (Or.inl ⟨by rfl,?_⟩) ?_ ?_;rotate_left
                       ·intro w';go_simp;with_reducible rfl
                       rotate_left
                       ·simp only [Act.put,List.setIfInBounds_toArray,List.set_cons_zero,List.set_cons_succ,i64_w,i32_w];rfl
                       refine pure_ (i := 4) (N := some 89) (v := ?_) (a' := ?_) #[true,true,true,true,true,false,false,false,false,false,false,false,false,false,false,false,false,false,false,false,false,false,false,false] rfl rfl (any_of HT_.out (by kernel_rfl)) (fun _ _ _ h => h) (Or.inl ⟨by rfl,?_⟩) ?_ ?_;rotate_left
                       ·intro w';go_simp;with_reducible rfl
                       rotate_left
                       ·simp only [Act.put,List.setIfInBounds_toArray,List.set_cons_zero,List.set_cons_succ,i64_w,i32_w];rfl
                       refine pure_ (i := 5) (N := some 90) (v := ?_) (a' := ?_) #[true,true,true,true,true,true,false,false,false,false,false,false,false,false,false,false,false,false,false,false,false,false,false,false] rfl rfl (any_of HT_.out (by kernel_rfl)) (fun _ _ _ h => h) (Or.inl ⟨by rfl,?_⟩) ?_ ?_;rotate_left
                       ·intro w';go_simp;with_reducible rfl
                       rotate_left
                       ·simp only [Act.put,List.setIfInBounds_toArray,List.set_cons_zero,List.set_cons_succ,i64_w,i32_w];rfl
                       refine pure_ (i := 6) (N := some 91) (v := ?_) (a' := ?_) #[true,true,true,true,true,true,true,false,false,false,false,false,false,false,false,false,false,false,false,false,false,false,false,false] rfl rfl (any_of HT_.out (by kernel_rfl)) (fun _ _ _ h => h) (Or.inl ⟨by rfl,?_⟩) ?_ ?_;rotate_left
                       ·intro w';go_simp;with_reducible rfl
                       rotate_left
                       ·simp only [Act.put,List.setIfInBounds_toArray,List.set_cons_zero,List.set_cons_succ,i64_w,i32_w];rfl
                       refine pure_ (i := 7) (N := some 92) (v := ?_) (a' := ?_) #[true,true,true,true,true,true,true,true,false,false,false,false,false,false,false,false,false,false,false,false,false,false,false,false] rfl rfl (any_of HT_.out (by kernel_rfl)) (fun _ _ _ h => h) (Or.inl ⟨by rfl,?_⟩) ?_ ?_;rotate_left
                       ·intro w';go_simp;with_reducible rfl
                       rotate_left
                       ·simp only [Act.put,List.setIfInBounds_toArray,List.set_cons_zero,List.set_cons_succ,i64_w,i32_w];rfl
                       refine pure_ (i := 8) (N := some 93) (v := ?_) (a' := ?_) #[true,true,true,true,true,true,true,true,true,false,false,false,false,false,false,false,false,false,false,false,false,false,false,false] rfl rfl (any_of HT_.out (by kernel_rfl)) (fun _ _ _ h => h) (Or.inl ⟨by rfl,?_⟩) ?_ ?_;rotate_left
                       ·intro w';go_simp;with_reducible rfl
                       rotate_left
                       ·simp only [Act.put,List.setIfInBounds_toArray,List.set_cons_zero,List.set_cons_succ,i64_w,i32_w];rfl
                       refine pure_ (i := 10) (N := some 95) (v := ?_) (a' := ?_) #[true,true,true,true,true,true,true,true,true,false,true,false,false,false,false,false,false,false,false,false,false,false,false,false] rfl rfl (any_of HT_.out (by kernel_rfl)) (fun _ _ _ h => h) (Or.inl ⟨by rfl,?_⟩) ?_ ?_;rotate_left
                       ·intro w';go_simp;with_reducible rfl
                       rotate_left
                       ·simp only [Act.put,List.setIfInBounds_toArray,List.set_cons_zero,List.set_cons_succ,i64_w,i32_w];rfl
                       refine pure_ (i := 14) (N := some 99) (v := ?_) (a' := ?_) #[true,true,true,true,true,true,true,true,true,false,true,false,false,false,true,false,false,false,false,false,false,false,false,false] rfl rfl (any_of HT_.out (by kernel_rfl)) (fun _ _ _ h => h) (Or.inl ⟨by rfl,?_⟩) ?_ ?_;rotate_left
                       ·intro w';go_simp;with_reducible rfl
                       rotate_left
                       ·simp only [Act.put,List.setIfInBounds_toArray,List.set_cons_zero,List.set_cons_succ,i64_w,i32_w];rfl
                       refine pure_ (i := 15) (N := some 100) (v := ?_) (a' := ?_) #[true,true,true,true,true,true,true,true,true,false,true,false,false,false,true,true,false,false,false,false,false,false,false,false] rfl rfl (any_of HT_.out (by kernel_rfl)) (fun _ _ _ h => h) (Or.inl ⟨by rfl,?_⟩) ?_ ?_;rotate_left
                       ·intro w';go_simp;with_reducible rfl
                       rotate_left
                       ·simp only [Act.put,List.setIfInBounds_toArray,List.set_cons_zero,List.set_cons_succ,i64_w,i32_w];rfl
                       refine pure_ (i := 16) (N := some 101) (v := ?_) (a' := ?_) #[true,true,true,true,true,true,true,true,true,false,true,false,false,false,true,true,true,false,false,false,false,false,false,false] rfl rfl (any_of HT_.out (by kernel_rfl)) (fun _ _ _ h => h) (Or.inl ⟨by rfl,?_⟩) ?_ ?_;rotate_left
                       ·intro w';go_simp;with_reducible rfl
                       rotate_left
                       ·simp only [Act.put,List.setIfInBounds_toArray,List.set_cons_zero,List.set_cons_succ,i64_w,i32_w];rfl
                       refine pure_ (i := 18) (N := some 103) (v := ?_) (a' := ?_) #[true,true,true,true,true,true,true,true,true,false,true,false,false,false,true,true,true,false,true,false,false,false,false,false] rfl rfl (any_of HT_.out (by kernel_rfl)) (fun _ _ _ h => h) (Or.inl ⟨by rfl,?_⟩) ?_ ?_;rotate_left
                       ·intro w';go_simp;with_reducible rfl
                       rotate_left
                       ·simp only [Act.put,List.setIfInBounds_toArray,List.set_cons_zero,List.set_cons_succ,i64_w,i32_w];rfl
                       refine take_ (i := 9) (N := some 94) (v := ?_) (a' := ?_) #[true,true,true,true,true,true,true,true,true,true,true,false,false,false,true,true,true,false,true,false,false,false,false,false] rfl rfl (take_ofW HT_.out HW_.out (by kernel_rfl)) (fun _ _ _ h => h) (Or.inl ⟨by rfl,?_⟩) hHeld ?_ ?_;rotate_left
                       ·rintro w' ⟨s0,s1,s2,s3⟩
                        go_simp;with_reducible rfl
                       rotate_left
                       ·simp only [Act.put,List.setIfInBounds_toArray,List.set_cons_zero,List.set_cons_succ,i64_w,i32_w];rfl
                       refine pure_ (i := 11) (N := some 96) (v := ?_) (a' := ?_) #[true,true,true,true,true,true,true,true,true,true,true,true,false,false,true,true,true,false,true,false,false,false,false,false] rfl rfl (any_of HT_.out (by kernel_rfl)) (fun _ _ _ h => h) (Or.inl ⟨by rfl,?_⟩) ?_ ?_;rotate_left
                       ·intro w';go_simp;with_reducible rfl
                       rotate_left
                       ·simp only [Act.put,List.setIfInBounds_toArray,List.set_cons_zero,List.set_cons_succ,i64_w,i32_w];rfl
                       refine take_ (i := 12) (N := some 97) (v := ?_) (a' := ?_) #[true,true,true,true,true,true,true,true,true,true,true,true,true,false,true,true,true,false,true,false,false,false,false,false] rfl rfl (take_ofW HT_.out HW_.out (by kernel_rfl)) (fun _ _ _ h => h) (Or.inl ⟨by rfl,?_⟩) hHeld ?_ ?_;rotate_left
                       ·rintro w' ⟨s0,s1,s2,s3⟩
                        go_simp;with_reducible rfl
                       rotate_left
                       ·simp only [Act.put,List.setIfInBounds_toArray,List.set_cons_zero,List.set_cons_succ,i64_w,i32_w];rfl
                       refine pure_ (i := 13) (N := some 98) (v := ?_) (a' := ?_) #[true,true,true,true,true,true,true,true,true,true,true,true,true,true,true,true,true,false,true,false,false,false,false,false] rfl rfl (any_of HT_.out (by kernel_rfl)) (fun _ _ _ h => h) (Or.inl ⟨by rfl,?_⟩) ?_ ?_;rotate_left
                       ·intro w';go_simp;with_reducible rfl
                       rotate_left
                       ·simp only [Act.put,List.setIfInBounds_toArray,List.set_cons_zero,List.set_cons_succ,i64_w,i32_w];rfl
                       refine take_ (i := 17) (N := some 102) (v := ?_) (a' := ?_) #[true,true,true,true,true,true,true,true,true,true,true,true,true,true,true,true,true,true,true,false,false,false,false,false] rfl rfl (take_ofW HT_.out HW_.out (by kernel_rfl)) (fun _ _ _ h => h) (Or.inl ⟨by rfl,?_⟩) hHeld ?_ ?_;rotate_left
                       ·rintro w' ⟨s0,s1,s2,s3⟩
                        go_simp;with_reducible rfl
                       rotate_left
                       ·simp only [Act.put,List.setIfInBounds_toArray,List.set_cons_zero,List.set_cons_succ,i64_w,i32_w];rfl
                       refine pure_ (i := 19) (N := some 104) (v := ?_) (a' := ?_) #[true,true,true,true,true,true,true,true,true,true,true,true,true,true,true,true,true,true,true,true,false,false,false,false] rfl rfl (any_of HT_.out (by kernel_rfl)) (fun _ _ _ h => h) (Or.inl ⟨by rfl,?_⟩) ?_ ?_;rotate_left
                       ·intro w';go_simp;with_reducible rfl
                       rotate_left
                       ·simp only [Act.put,List.setIfInBounds_toArray,List.set_cons_zero,List.set_cons_succ,i64_w,i32_w];rfl
                       refine take_ (i := 20) (N := some 105) (v := ?_) (a' := ?_) #[true,true,true,true,true,true,true,true,true,true,true,true,true,true,true,true,true,true,true,true,true,false,false,false] rfl rfl (take_ofW HT_.out HW_.out (by kernel_rfl)) (fun _ _ _ h => h) (Or.inl ⟨by rfl,?_⟩) hHeld ?_ ?_;rotate_left
                       ·rintro w' ⟨s0,s1,s2,s3⟩
                        go_simp;with_reducible rfl
                       rotate_left
                       ·simp only [Act.put,List.setIfInBounds_toArray,List.set_cons_zero,List.set_cons_succ,i64_w,i32_w];rfl
                       refine pure_ (i := 21) (N := some 106) (v := ?_) (a' := ?_) #[true,true,true,true,true,true,true,true,true,true,true,true,true,true,true,true,true,true,true,true,true,true,false,false] rfl rfl (any_of HT_.out (by kernel_rfl)) (fun _ _ _ h => h) (Or.inl ⟨by rfl,?_⟩) ?_ ?_;rotate_left
                       ·intro w';go_simp;with_reducible rfl
                       rotate_left
                       ·simp only [Act.put,List.setIfInBounds_toArray,List.set_cons_zero,List.set_cons_succ,i64_w,i32_w];rfl
                       refine pure_ (i := 22) (N := some 107) (v := ?_) (a' := ?_) #[true,true,true,true,true,true,true,true,true,true,true,true,true,true,true,true,true,true,true,true,true,true,true,false] rfl rfl (any_of HT_.out (by kernel_rfl)) (fun _ _ _ h => h) (Or.inl ⟨by rfl,?_⟩) ?_ ?_;rotate_left
                       ·intro w';go_simp;with_reducible rfl
                       rotate_left
                       ·simp only [Act.put,List.setIfInBounds_toArray,List.set_cons_zero,List.set_cons_succ,i64_w,i32_w];rfl
                       refine pure_ (i := 23) (N := some 84) (v := ?_) (a' := ?_) #[true,true,true,true,true,true,true,true,true,true,true,true,true,true,true,true,true,true,true,true,true,true,true,true] rfl rfl (any_of HT_.out (by kernel_rfl)) (fun _ _ _ h => h) (Or.inl ⟨by rfl,?_⟩) ?_ ?_;rotate_left
                       ·intro w';go_simp;with_reducible rfl
                       rotate_left
                       ·simp only [Act.put,List.setIfInBounds_toArray,List.set_cons_zero,List.set_cons_succ,i64_w,i32_w];rfl
                       refine done_ (done_of HT_.out (by kernel_rfl)) ?_
                       try go_wp2_with (first | ((with_reducible refine gate_builtin (b := .append) (xs := #[.tmp 108,.tmp 111]) rfl ?_);(try (refine gate_guard (by rfl) ?_;dsimp only));at_builtin;refine Kd.R_append k100 (w0 := w) w.heap.size rfl (.tmp 108) (.tmp 111) 52 100 (.agg #[(.int .i64 0),(.int .i64 0)]) 16 rfl Try.underlying52 info100 rfl (by decide) (by omega) u6 x6_1 (⟨x7_1,(-1)⟩ : S100) [.int .i64 x7_1,.int .i64 (-1)] (fun _ => True) (fun _ => False) rfl rfl ?aP (fun _ hk => hk.elim) ?aF ?aO ?aB ?aS ?aL ?_;(case aP => exact k100_mkM _ _ _ (⟨x7_1,(-1)⟩ : S100));(case aB => exact (by repeat (first | (with_reducible first | exact HB.out | apply below_alloc | apply pw_below_drewN | apply below_drew1) | exact HB.out)));(case aF => exact (fun _ _ => trivial));(case aO => exact (by (with_reducible repeat (first | apply Kd.R_alloc | apply Kd.R_drewN | apply Kd.R_drew));exact HO_6.out));(case aS => exact (below_size (by repeat (first | (with_reducible first | exact HB.out | apply below_alloc | apply pw_below_drewN | apply below_drew1) | exact HB.out))));(case aL => have := LMc49.out;omega);intro v122 w52 ho hb hg hat;rw [← Ny121.out] at ho;have n0_ := Aside0.mk (Kd.S_over' (by (with_reducible repeat (first | apply Kd.S_alloc | apply Kd.S_drewN | apply Kd.S_drew));exact HO_5.out) (Kd.R_typed (by (with_reducible repeat (first | apply Kd.R_alloc | apply Kd.R_drewN | apply Kd.R_drew));exact HO_6.out)) (by decide) hg);have n1_ := Aside0.mk (Kd.R_over' (by (with_reducible repeat (first | apply Kd.R_alloc | apply Kd.R_drewN | apply Kd.R_drew));exact HL117_0.out) (Kd.R_typed (by (with_reducible repeat (first | apply Kd.R_alloc | apply Kd.R_drewN | apply Kd.R_drew));exact HO_6.out)) (by decide) hg);have n2_ := Aside0.mk (Kd.R_over' (by (with_reducible repeat (first | apply Kd.R_alloc | apply Kd.R_drewN | apply Kd.R_drew));exact HL119_0.out) (Kd.R_typed (by (with_reducible repeat (first | apply Kd.R_alloc | apply Kd.R_drewN | apply Kd.R_drew));exact HO_6.out)) (by decide) hg);have n3_ := Aside0.mk (hb);have n4_ := Aside0.mk (ho);clear HO_5;clear HL117_0;clear HL119_0;clear HB;clear HO_6;have HO_5 := n0_;have HL117_0 := n1_;have HL119_0 := n2_;have HB := n3_;have HO123 := n4_;clear n0_ n1_ n2_ n3_ n4_;clear ho hb hg hat))
                       go_roundg kj20
                       case measure => have := HK1.out;have := HJ6.out;have := HJ9.out;have := HJ11.out;have := HJ20.out;omega
                       case rel => exact ⟨(y121),(ji40),(x8_1),(by first | rfl | (simp only [IntKind.wrap_i64,wrap64];done) | (simp;done) | (simp only [← hji40] <;> (first | rfl | simp)) | (simp [*];done)),(by first | rfl | (simp only [IntKind.wrap_i64,wrap64];done) | (simp;done) | (simp [*];done)),H',⟨by have := HK1.out;have := HJ6.out;have := HJ9.out;have := HJ11.out;have := HJ20.out;omega⟩,⟨by (with_reducible repeat (first | apply Kd.S_alloc | apply Kd.S_drewN | apply Kd.S_drew));exact HO_5.out⟩,⟨by (with_reducible repeat (first | apply Kd.R_alloc | apply Kd.R_drewN | apply Kd.R_drew));exact HO123.out⟩,⟨by repeat (first | (with_reducible first | exact HB.out | apply below_alloc | apply pw_below_drewN | apply below_drew1) | exact HB.out)⟩⟩
                      ·rw [if_neg c49] at H;exact absurd H (by simp)
                     ·rw [if_neg c48] at H;have c48b0 : ((wrap64 (1 + (rd (rd_L6 t101 (ji40)) x8_1))) == (rd (rd_L6 t101 x7_1) x8_1)) = false := beq_eq_false_iff_ne.mpr c48;have c48b1 : ((wrap64 (1 + (rd (rd_L6 t101 (ji40)) x8_1))) != (rd (rd_L6 t101 x7_1) x8_1)) = true := bne_iff_ne.mpr c48
                      by_cases c53 : x6_1.length < 8796093022208
                      ·rw [if_pos c53] at H;have LMc53 := Aside0.mk c53;clear c53;obtain ⟨y124,hy124⟩ : ∃ y_ : List (S100),y_ = (x6_1 ++ [(⟨(-1),x8_1⟩ : S100)]) := ⟨_,rfl⟩
                       replace H : (spec_l07Story.l0 kj20 l0 l1 t101 y124 x7_1 (wrap64 (x8_1 + 1))) = some r := by first | (rw [hy124];with_reducible exact H) | (have H2_ := (Option.bind_some _ _).symm.trans H;rw [hy124];with_reducible exact H2_) | (have H2_ := (Option.bind_some _ _).symm.trans H;with_reducible exact H2_) | with_reducible exact H | (rw [hy124];exact H) | exact H
                       have Ny124 := Aside0.mk hy124;clear hy124;have H' := Aside0.mk H;clear H;(try go_wp2);have n0_ := Aside0.mk (Kd.S_drew HO_5.out);have n1_ := Aside0.mk (Kd.R_drew HO_6.out);have n2_ := Aside0.mk (below_drew1 HB.out);clear HO_5;clear HO_6;clear HB;have HO_5 := n0_;have HO_6 := n1_;have HB := n2_;clear n0_ n1_ n2_;obtain ⟨Ao55,co55,eo55⟩ := Kd.S_slice HO_5.out;(first | subst eo55 | (injection eo55 with f1_ f2_ f3_;have f4_ := f1_.symm;have f5_ := f3_.symm;clear f1_ f2_ f3_;subst f4_;subst f5_));have p117 : 0 ≤ ((ji40) : Int) := of_decide_eq_true (by first | (with_reducible assumption) | assumption);have q117 : (ji40) < (t101.length : Int) := of_decide_eq_true (by first | (with_reducible assumption) | assumption);obtain ⟨ad117,A117_0,c117_0,e117,hx117_0,hl117_0,hi117_0⟩ := at_L6 (Kd.S_reads' HO_5.out).2.2 (ji40) p117 q117;cases e117;obtain ⟨ce117,hce117,hMe117,hcc117⟩ := Kd.S_get HO_5.out [] (ji40) p117 (by first | exact q117 | exact of_decide_eq_true (by first | (with_reducible assumption) | assumption) | (have e_ := (Kd.S_reads' HO_5.out).1;omega));obtain ⟨ve117_0,rfl,ge117_0⟩ := hMe117;have hv117_0 := hcc117 0 _ rfl;rw [Nat.add_zero,show ((Kd.slice 2 (Kd.int .i64))).sz = 1 from rfl,Nat.mul_one] at hv117_0;replace hv117_0 := Option.some.inj (hv117_0.symm.trans hx117_0);rw [hv117_0] at ge117_0;have HL117_0 := Aside0.mk (show Kd.R (Kd.int .i64) 2 _ _ _ _ (rd_L6 t101 (ji40)) from ge117_0);clear hv117_0 ge117_0;clear hcc117 hce117;have HR117_0 := Aside0.mk hi117_0;have HC117_0 := Aside0.mk hl117_0;clear hi117_0 hl117_0;replace p117 := eq_true p117;replace q117 := eq_true q117;have p118 : 0 ≤ (x8_1 : Int) := of_decide_eq_true (by first | (with_reducible assumption) | assumption);have q118 : x8_1 < ((rd_L6 t101 (ji40)).length : Int) := of_decide_eq_true (by first | (with_reducible assumption) | assumption);obtain ⟨ad118,e118,hx118_0⟩ := Kd.at_int (by repeat (first | (with_reducible exact HR117_0.out) | (with_reducible refine Kd.C_alloc ?_ _) | (with_reducible refine Kd.C_drewN ?_ _) | (with_reducible refine Kd.C_drew ?_) | exact HR117_0.out)) x8_1 p118 q118;cases e118;replace p118 := eq_true p118;replace q118 := eq_true q118;have p119 : 0 ≤ (x7_1 : Int) := of_decide_eq_true (by first | (with_reducible assumption) | assumption);have q119 : x7_1 < (t101.length : Int) := of_decide_eq_true (by first | (with_reducible assumption) | assumption);obtain ⟨ad119,A119_0,c119_0,e119,hx119_0,hl119_0,hi119_0⟩ := at_L6 (Kd.S_reads' HO_5.out).2.2 x7_1 p119 q119;obtain rfl : ad117 = ad119 := (by injection e119);obtain ⟨ce119,hce119,hMe119,hcc119⟩ := Kd.S_get HO_5.out [] x7_1 p119 (by first | exact q119 | exact of_decide_eq_true (by first | (with_reducible assumption) | assumption) | (have e_ := (Kd.S_reads' HO_5.out).1;omega));obtain ⟨ve119_0,rfl,ge119_0⟩ := hMe119;have hv119_0 := hcc119 0 _ rfl;rw [Nat.add_zero,show ((Kd.slice 2 (Kd.int .i64))).sz = 1 from rfl,Nat.mul_one] at hv119_0;replace hv119_0 := Option.some.inj (hv119_0.symm.trans hx119_0);rw [hv119_0] at ge119_0;have HL119_0 := Aside0.mk (show Kd.R (Kd.int .i64) 2 _ _ _ _ (rd_L6 t101 x7_1) from ge119_0);clear hv119_0 ge119_0;clear hcc119 hce119;have HR119_0 := Aside0.mk hi119_0;have HC119_0 := Aside0.mk hl119_0;clear hi119_0 hl119_0;replace p119 := eq_true p119;replace q119 := eq_true q119;have p120 : 0 ≤ (x8_1 : Int) := of_decide_eq_true (by first | (with_reducible assumption) | assumption);have q120 : x8_1 < ((rd_L6 t101 x7_1).length : Int) := of_decide_eq_true (by first | (with_reducible assumption) | assumption);obtain ⟨ad120,e120,hx120_0⟩ := Kd.at_int (by repeat (first | (with_reducible exact HR119_0.out) | (with_reducible refine Kd.C_alloc ?_ _) | (with_reducible refine Kd.C_drewN ?_ _) | (with_reducible refine Kd.C_drew ?_) | exact HR119_0.out)) x8_1 p120 q120;cases e120;replace p120 := eq_true p120;replace q120 := eq_true q120;refine start_ (n := 24) (S := fun w' => w'.cell? (ad117.add ((ji40)).toNat) = some (.slice (some ad118) (rd_L6 t101 (ji40)).length c117_0) ∧ w'.cell? (ad118.add (x8_1).toNat) = some (.int .i64 (rd (rd_L6 t101 (ji40)) x8_1)) ∧ w'.cell? (ad117.add (x7_1).toNat) = some (.slice (some ad120) (rd_L6 t101 x7_1).length c119_0) ∧ w'.cell? (ad120.add (x8_1).toNat) = some (.int .i64 (rd (rd_L6 t101 x7_1) x8_1))) (ds := []) #[false,false,false,false,false,false,false,false,false,false,false,false,false,false,false,false,false,false,false,false,false,false,false,false] (by kernel_rfl) rfl rfl ⟨hx117_0,hx118_0,hx119_0,hx120_0⟩ (fun hHeld => ?_);refine with_tabW spec_l07Story.tab15 spec_l07Story.bits15 (fun HT_ HW_ => ?_);generalize wc.drew = w54 at HO_5 HO_6 HB HL117_0 HL119_0 HR117_0 HR119_0 hx117_0 hx118_0 hx119_0 hx120_0 hHeld ⊢;refine pure_ (i := 0) (N := some 85) (v := ?_) (a' := ?_) #[true,false,false,false,false,false,false,false,false,false,false,false,false,false,false,false,false,false,false,false,false,false,false,false] rfl rfl (any_of HT_.out (by kernel_rfl)) (fun _ _ _ h => h) (Or.inl ⟨by rfl,?_⟩) ?_ ?_;rotate_left
                       ·intro w';go_simp;with_reducible rfl
                       rotate_left
                       ·simp only [Act.put,List.setIfInBounds_toArray,List.set_cons_zero,List.set_cons_succ,i64_w,i32_w];rfl
                       refine pure_ (i := 1) (N := some 86) (v := ?_) (a' := ?_) #[true,true,false,false,false,false,false,false,false,false,false,false,false,false,false,false,false,false,false,false,false,false,false,false] rfl rfl (any_of HT_.out (by kernel_rfl)) (fun _ _ _ h => h) (Or.inl ⟨by rfl,?_⟩) ?_ ?_;rotate_left
                       ·intro w';go_simp;with_reducible rfl
                       rotate_left
                       ·simp only [Act.put,List.setIfInBounds_toArray,List.set_cons_zero,List.set_cons_succ,i64_w,i32_w];rfl
                       refine pure_ (i := 2) (N := some 87) (v := ?_) (a' := ?_) #[true,true,true,false,false,false,false,false,false,false,false,false,false,false,false,false,false,false,false,false,false,false,false,false] rfl rfl (any_of HT_.out (by kernel_rfl)) (fun _ _ _ h => h) (Or.inl ⟨by rfl,?_⟩) ?_ ?_;rotate_left
                       ·intro w';go_simp;with_reducible rfl
                       rotate_left
                       ·simp only [Act.put,List.setIfInBounds_toArray,List.set_cons_zero,List.set_cons_succ,i64_w,i32_w];rfl
                       refine pure_ (i := 3) (N := some 88) (v := ?_) (a' := ?_) #[true,true,true,true,false,false,false,false,false,false,false,false,false,false,false,false,false,false,false,false,false,false,false,false] rfl rfl (any_of HT_.out (by kernel_rfl)) (fun _ _ _ h => h) (Or.inl ⟨by rfl,?_⟩) ?_ ?_;rotate_left
                       ·intro w';go_simp;with_reducible rfl
                       rotate_left
                       ·simp only [Act.put,List.setIfInBounds_toArray,List.set_cons_zero,List.set_cons_succ,i64_w,i32_w];rfl
                       refine pure_ (i := 4) (N := some 89) (v := ?_) (a' := ?_) #[true,true,true,true,true,false,false,false,false,false,false,false,false,false,false,false,false,false,false,false,false,false,false,false] rfl rfl (any_of HT_.out (by kernel_rfl)) (fun _ _ _ h => h) (Or.inl ⟨by rfl,?_⟩) ?_ ?_;rotate_left
                       ·intro w';go_simp;with_reducible rfl
                       rotate_left
                       ·simp only [Act.put,List.setIfInBounds_toArray,List.set_cons_zero,List.set_cons_succ,i64_w,i32_w];rfl
                       refine pure_ (i := 5) (N := some 90) (v := ?_) (a' := ?_) #[true,true,true,true,true,true,false,false,false,false,false,false,false,false,false,false,false,false,false,false,false,false,false,false] rfl rfl (any_of HT_.out (by kernel_rfl)) (fun _ _ _ h => h) (Or.inl ⟨by rfl,?_⟩) ?_ ?_;rotate_left
                       ·intro w';go_simp;with_reducible rfl
                       rotate_left
                       ·simp only [Act.put,List.setIfInBounds_toArray,List.set_cons_zero,List.set_cons_succ,i64_w,i32_w];rfl
                       refine pure_ (i := 6) (N := some 91) (v := ?_) (a' := ?_) #[true,true,true,true,true,true,true,false,false,false,false,false,false,false,false,false,false,false,false,false,false,false,false,false] rfl rfl (any_of HT_.out (by kernel_rfl)) (fun _ _ _ h => h) (Or.inl ⟨by rfl,?_⟩) ?_ ?_;rotate_left
                       ·intro w';go_simp;with_reducible rfl
                       rotate_left
                       ·simp only [Act.put,List.setIfInBounds_toArray,List.set_cons_zero,List.set_cons_succ,i64_w,i32_w];rfl
                       refine pure_ (i := 7) (N := some 92) (v := ?_) (a' := ?_) #[true,true,true,true,true,true,true,true,false,false,false,false,false,false,false,false,false,false,false,false,false,false,false,false] rfl rfl (any_of HT_.out (by kernel_rfl)) (fun _ _ _ h => h) (Or.inl ⟨by rfl,?_⟩) ?_ ?_;rotate_left
                       ·intro w';go_simp;with_reducible rfl
                       rotate_left
                       ·simp only [Act.put,List.setIfInBounds_toArray,List.set_cons_zero,List.set_cons_succ,i64_w,i32_w];rfl
                       refine pure_ (i := 8) (N := some 93) (v := ?_) (a' := ?_) #[true,true,true,true,true,true,true,true,true,false,false,false,false,false,false,false,false,false,false,false,false,false,false,false] rfl rfl (any_of HT_.out (by kernel_rfl)) (fun _ _ _ h => h) (Or.inl ⟨by rfl,?_⟩) ?_ ?_;rotate_left
                       ·intro w';go_simp;with_reducible rfl
                       rotate_left
                       ·simp only [Act.put,List.setIfInBounds_toArray,List.set_cons_zero,List.set_cons_succ,i64_w,i32_w];rfl
                       refine pure_ (i := 10) (N := some 95) (v := ?_) (a' := ?_) #[true,true,true,true,true,true,true,true,true,false,true,false,false,false,false,false,false,false,false,false,false,false,false,false] rfl rfl (any_of HT_.out (by kernel_rfl)) (fun _ _ _ h => h) (Or.inl ⟨by rfl,?_⟩) ?_ ?_;rotate_left
                       ·intro w';go_simp;with_reducible rfl
                       rotate_left
                       ·simp only [Act.put,List.setIfInBounds_toArray,List.set_cons_zero,List.set_cons_succ,i64_w,i32_w];rfl
                       refine pure_ (i := 14) (N := some 99) (v := ?_) (a' := ?_) #[true,true,true,true,true,true,true,true,true,false,true,false,false,false,true,false,false,false,false,false,false,false,false,false] rfl rfl (any_of HT_.out (by kernel_rfl)) (fun _ _ _ h => h) (Or.inl ⟨by rfl,?_⟩) ?_ ?_;rotate_left
                       ·intro w';go_simp;with_reducible rfl
                       rotate_left
                       ·simp only [Act.put,List.setIfInBounds_toArray,List.set_cons_zero,List.set_cons_succ,i64_w,i32_w];rfl
                       refine pure_ (i := 15) (N := some 100) (v := ?_) (a' := ?_) #[true,true,true,true,true,true,true,true,true,false,true,false,false,false,true,true,false,false,false,false,false,false,false,false] rfl rfl (any_of HT_.out (by kernel_rfl)) (fun _ _ _ h => h) (Or.inl ⟨by rfl,?_⟩) ?_ ?_;rotate_left
                       ·intro w';go_simp;with_reducible rfl
                       rotate_left
                       ·simp only [Act.put,List.setIfInBounds_toArray,List.set_cons_zero,List.set_cons_succ,i64_w,i32_w];rfl
                       refine pure_ (i := 16) (N := some 101) (v := ?_) (a' := ?_) #[true,true,true,true,true,true,true,true,true,false,true,false,false,false,true,true,true,false,false,false,false,false,false,false] rfl rfl (any_of HT_.out (by kernel_rfl)) (fun _ _ _ h => h) (Or.inl ⟨by rfl,?_⟩) ?_ ?_;rotate_left
                       ·intro w';go_simp;with_reducible rfl
                       rotate_left
                       ·simp only [Act.put,List.setIfInBounds_toArray,List.set_cons_zero,List.set_cons_succ,i64_w,i32_w];rfl
                       refine pure_ (i := 18) (N := some 103) (v := ?_) (a' := ?_) #[true,true,true,true,true,true,true,true,true,false,true,false,false,false,true,true,true,false,true,false,false,false,false,false] rfl rfl (any_of HT_.out (by kernel_rfl)) (fun _ _ _ h => h) (Or.inl ⟨by rfl,?_⟩) ?_ ?_;rotate_left
                       ·intro w';go_simp;with_reducible rfl
                       rotate_left
                       ·simp only [Act.put,List.setIfInBounds_toArray,List.set_cons_zero,List.set_cons_succ,i64_w,i32_w];rfl
                       refine take_ (i := 9) (N := some 94) (v := ?_) (a' := ?_) #[true,true,true,true,true,true,true,true,true,true,true,false,false,false,true,true,true,false,true,false,false,false,false,false] rfl rfl (take_ofW HT_.out HW_.out (by kernel_rfl)) (fun _ _ _ h => h) (Or.inl ⟨by rfl,?_⟩) hHeld ?_ ?_;rotate_left
                       ·rintro w' ⟨s0,s1,s2,s3⟩
                        go_simp;with_reducible rfl
                       rotate_left
                       ·simp only [Act.put,List.setIfInBounds_toArray,List.set_cons_zero,List.set_cons_succ,i64_w,i32_w];rfl
                       refine pure_ (i := 11) (N := some 96) (v := ?_) (a' := ?_) #[true,true,true,true,true,true,true,true,true,true,true,true,false,false,true,true,true,false,true,false,false,false,false,false] rfl rfl (any_of HT_.out (by kernel_rfl)) (fun _ _ _ h => h) (Or.inl ⟨by rfl,?_⟩) ?_ ?_;rotate_left
                       ·intro w';go_simp;with_reducible rfl
                       rotate_left
                       ·simp only [Act.put,List.setIfInBounds_toArray,List.set_cons_zero,List.set_cons_succ,i64_w,i32_w];rfl
                       refine take_ (i := 12) (N := some 97) (v := ?_) (a' := ?_) #[true,true,true,true,true,true,true,true,true,true,true,true,true,false,true,true,true,false,true,false,false,false,false,false] rfl rfl (take_ofW HT_.out HW_.out (by kernel_rfl)) (fun _ _ _ h => h) (Or.inl ⟨by rfl,?_⟩) hHeld ?_ ?_;rotate_left
                       ·rintro w' ⟨s0,s1,s2,s3⟩
                        go_simp;with_reducible rfl
                       rotate_left
                       ·simp only [Act.put,List.setIfInBounds_toArray,List.set_cons_zero,List.set_cons_succ,i64_w,i32_w];rfl
                       refine pure_ (i := 13) (N := some 98) (v := ?_) (a' := ?_) #[true,true,true,true,true,true,true,true,true,true,true,true,true,true,true,true,true,false,true,false,false,false,false,false] rfl rfl (any_of HT_.out (by kernel_rfl)) (fun _ _ _ h => h) (Or.inl ⟨by rfl,?_⟩) ?_ ?_;rotate_left
                       ·intro w';go_simp;with_reducible rfl
                       rotate_left
                       ·simp only [Act.put,List.setIfInBounds_toArray,List.set_cons_zero,List.set_cons_succ,i64_w,i32_w];rfl
                       refine take_ (i := 17) (N := some 102) (v := ?_) (a' := ?_) #[true,true,true,true,true,true,true,true,true,true,true,true,true,true,true,true,true,true,true,false,false,false,false,false] rfl rfl (take_ofW HT_.out HW_.out (by kernel_rfl)) (fun _ _ _ h => h) (Or.inl ⟨by rfl,?_⟩) hHeld ?_ ?_;rotate_left
                       ·rintro w' ⟨s0,s1,s2,s3⟩
                        go_simp;with_reducible rfl
                       rotate_left
                       ·simp only [Act.put,List.setIfInBounds_toArray,List.set_cons_zero,List.set_cons_succ,i64_w,i32_w];rfl
                       refine pure_ (i := 19) (N := some 104) (v := ?_) (a' := ?_) #[true,true,true,true,true,true,true,true,true,true,true,true,true,true,true,true,true,true,true,true,false,false,false,false] rfl rfl (any_of HT_.out (by kernel_rfl)) (fun _ _ _ h => h) (Or.inl ⟨by rfl,?_⟩) ?_ ?_;rotate_left
                       ·intro w';go_simp;with_reducible rfl
                       rotate_left
                       ·simp only [Act.put,List.setIfInBounds_toArray,List.set_cons_zero,List.set_cons_succ,i64_w,i32_w];rfl
                       refine take_ (i := 20) (N := some 105) (v := ?_) (a' := ?_) #[true,true,true,true,true,true,true,true,true,true,true,true,true,true,true,true,true,true,true,true,true,false,false,false] rfl rfl (take_ofW HT_.out HW_.out (by kernel_rfl)) (fun _ _ _ h => h) (Or.inl ⟨by rfl,?_⟩) hHeld ?_ ?_;rotate_left
                       ·rintro w' ⟨s0,s1,s2,s3⟩
                        go_simp;with_reducible rfl
                       rotate_left
                       ·simp only [Act.put,List.setIfInBounds_toArray,List.set_cons_zero,List.set_cons_succ,i64_w,i32_w];rfl
                       refine pure_ (i := 21) (N := some 106) (v := ?_) (a' := ?_) #[true,true,true,true,true,true,true,true,true,true,true,true,true,true,true,true,true,true,true,true,true,true,false,false] rfl rfl (any_of HT_.out (by kernel_rfl)) (fun _ _ _ h => h) (Or.inl ⟨by rfl,?_⟩) ?_ ?_;rotate_left
                       ·intro w';go_simp;with_reducible rfl
                       rotate_left
                       ·simp only [Act.put,List.setIfInBounds_toArray,List.set_cons_zero,List.set_cons_succ,i64_w,i32_w];rfl
                       refine pure_ (i := 22) (N := some 107) (v := ?_) (a' := ?_) #[true,true,true,true,true,true,true,true,true,true,true,true,true,true,true,true,true,true,true,true,true,true,true,false] rfl rfl (any_of HT_.out (by kernel_rfl)) (fun _ _ _ h => h) (Or.inl ⟨by rfl,?_⟩) ?_ ?_;rotate_left
                       ·intro w';go_simp;with_reducible rfl
                       rotate_left
                       ·simp only [Act.put,List.setIfInBounds_toArray,List.set_cons_zero,List.set_cons_succ,i64_w,i32_w];rfl
                       refine pure_ (i := 23) (N := some 84) (v := ?_) (a' := ?_) #[true,true,true,true,true,true,true,true,true,true,true,true,true,true,true,true,true,true,true,true,true,true,true,true] rfl rfl (any_of HT_.out (by kernel_rfl)) (fun _ _ _ h => h) (Or.inl ⟨by rfl,?_⟩) ?_ ?_;rotate_left
                       ·intro w';go_simp;with_reducible rfl
                       rotate_left
                       ·simp only [Act.put,List.setIfInBounds_toArray,List.set_cons_zero,List.set_cons_succ,i64_w,i32_w];rfl
                       refine done_ (done_of HT_.out (by kernel_rfl)) ?_
                       try go_wp2_with (first | ((with_reducible refine gate_builtin (b := .append) (xs := #[.tmp 43,.tmp 46]) rfl ?_);(try (refine gate_guard (by rfl) ?_;dsimp only));at_builtin;refine Kd.R_append k100 (w0 := w) w.heap.size rfl (.tmp 43) (.tmp 46) 52 100 (.agg #[(.int .i64 0),(.int .i64 0)]) 16 rfl Try.underlying52 info100 rfl (by decide) (by omega) u6 x6_1 (⟨(-1),x8_1⟩ : S100) [.int .i64 (-1),.int .i64 x8_1] (fun _ => True) (fun _ => False) rfl rfl ?aP (fun _ hk => hk.elim) ?aF ?aO ?aB ?aS ?aL ?_;(case aP => exact k100_mkM _ _ _ (⟨(-1),x8_1⟩ : S100));(case aB => exact (by repeat (first | (with_reducible first | exact HB.out | apply below_alloc | apply pw_below_drewN | apply below_drew1) | exact HB.out)));(case aF => exact (fun _ _ => trivial));(case aO => exact (by (with_reducible repeat (first | apply Kd.R_alloc | apply Kd.R_drewN | apply Kd.R_drew));exact HO_6.out));(case aS => exact (below_size (by repeat (first | (with_reducible first | exact HB.out | apply below_alloc | apply pw_below_drewN | apply below_drew1) | exact HB.out))));(case aL => have := LMc53.out;omega);intro v125 w56 ho hb hg hat;rw [← Ny124.out] at ho;have n0_ := Aside0.mk (Kd.S_over' (by (with_reducible repeat (first | apply Kd.S_alloc | apply Kd.S_drewN | apply Kd.S_drew));exact HO_5.out) (Kd.R_typed (by (with_reducible repeat (first | apply Kd.R_alloc | apply Kd.R_drewN | apply Kd.R_drew));exact HO_6.out)) (by decide) hg);have n1_ := Aside0.mk (Kd.R_over' (by (with_reducible repeat (first | apply Kd.R_alloc | apply Kd.R_drewN | apply Kd.R_drew));exact HL117_0.out) (Kd.R_typed (by (with_reducible repeat (first | apply Kd.R_alloc | apply Kd.R_drewN | apply Kd.R_drew));exact HO_6.out)) (by decide) hg);have n2_ := Aside0.mk (Kd.R_over' (by (with_reducible repeat (first | apply Kd.R_alloc | apply Kd.R_drewN | apply Kd.R_drew));exact HL119_0.out) (Kd.R_typed (by (with_reducible repeat (first | apply Kd.R_alloc | apply Kd.R_drewN | apply Kd.R_drew));exact HO_6.out)) (by decide) hg);have n3_ := Aside0.mk (hb);have n4_ := Aside0.mk (ho);clear HO_5;clear HL117_0;clear HL119_0;clear HB;clear HO_6;have HO_5 := n0_;have HL117_0 := n1_;have HL119_0 := n2_;have HB := n3_;have HO126 := n4_;clear n0_ n1_ n2_ n3_ n4_;clear ho hb hg hat))
                       go_roundg kj20
                       case measure => have := HK1.out;have := HJ6.out;have := HJ9.out;have := HJ11.out;have := HJ20.out;omega
                       case rel => exact ⟨(y124),(x7_1),(wrap64 (x8_1 + 1)),(by first | rfl | (simp only [IntKind.wrap_i64,wrap64];done) | (simp;done) | (simp [*];done)),(by first | rfl | (simp only [IntKind.wrap_i64,wrap64];done) | (simp;done) | (simp [*];done)),H',⟨by have := HK1.out;have := HJ6.out;have := HJ9.out;have := HJ11.out;have := HJ20.out;omega⟩,⟨by (with_reducible repeat (first | apply Kd.S_alloc | apply Kd.S_drewN | apply Kd.S_drew));exact HO_5.out⟩,⟨by (with_reducible repeat (first | apply Kd.R_alloc | apply Kd.R_drewN | apply Kd.R_drew));exact HO126.out⟩,⟨by repeat (first | (with_reducible first | exact HB.out | apply below_alloc | apply pw_below_drewN | apply below_drew1) | exact HB.out)⟩⟩
                      ·rw [if_neg c53] at H;exact absurd H (by simp)
                    ·rw [if_neg c47] at H;exact absurd H (by simp)
                   ·rw [if_neg c46] at H;exact absurd H (by simp)
                  ·rw [if_neg c45] at H;exact absurd H (by simp)
                 ·rw [if_neg c44] at H;exact absurd H (by simp)
                ·rw [if_neg c43] at H;exact absurd H (by simp)
               ·rw [if_neg c42] at H;exact absurd H (by simp)
              ·rw [if_neg c41] at H;exact absurd H (by simp)
             ·rw [if_neg c39] at H;have c39b0 : decide (x7_1 < (l0.length : Int)) = false := decide_eq_false c39;clear c39
              by_cases c57 : x6_1.length < 8796093022208
              ·rw [if_pos c57] at H;have LMc57 := Aside0.mk c57;clear c57;obtain ⟨y127,hy127⟩ : ∃ y_ : List (S100),y_ = (x6_1 ++ [(⟨(-1),x8_1⟩ : S100)]) := ⟨_,rfl⟩
               replace H : (spec_l07Story.l0 kj20 l0 l1 t101 y127 x7_1 (wrap64 (x8_1 + 1))) = some r := by first | (rw [hy127];with_reducible exact H) | (have H2_ := (Option.bind_some _ _).symm.trans H;rw [hy127];with_reducible exact H2_) | (have H2_ := (Option.bind_some _ _).symm.trans H;with_reducible exact H2_) | with_reducible exact H | (rw [hy127];exact H) | exact H
               have Ny127 := Aside0.mk hy127;clear hy127;have H' := Aside0.mk H;clear H;(try go_wp2);have n0_ := Aside0.mk (Kd.S_drew HO_5.out);have n1_ := Aside0.mk (Kd.R_drew HO_6.out);have n2_ := Aside0.mk (below_drew1 HB.out);clear HO_5;clear HO_6;clear HB;have HO_5 := n0_;have HO_6 := n1_;have HB := n2_;clear n0_ n1_ n2_;refine start_ (n := 24) (S := fun w' => True) (ds := []) #[false,false,false,false,false,false,false,false,false,false,false,false,false,false,false,false,false,false,false,false,false,false,false,false] (by kernel_rfl) rfl rfl trivial (fun hHeld => ?_);refine with_tabW spec_l07Story.tab15 spec_l07Story.bits15 (fun HT_ HW_ => ?_);generalize wc.drew = w58 at HO_5 HO_6 HB hHeld ⊢;refine pure_ (i := 0) (N := some 85) (v := ?_) (a' := ?_) #[true,false,false,false,false,false,false,false,false,false,false,false,false,false,false,false,false,false,false,false,false,false,false,false] rfl rfl (any_of HT_.out (by kernel_rfl)) (fun _ _ _ h => h) (Or.inl ⟨by rfl,?_⟩) ?_ ?_;rotate_left
               ·intro w';go_simp;with_reducible rfl
               rotate_left
               ·simp only [Act.put,List.setIfInBounds_toArray,List.set_cons_zero,List.set_cons_succ,i64_w,i32_w];rfl
               refine pure_ (i := 1) (N := some 86) (v := ?_) (a' := ?_) #[true,true,false,false,false,false,false,false,false,false,false,false,false,false,false,false,false,false,false,false,false,false,false,false] rfl rfl (any_of HT_.out (by kernel_rfl)) (fun _ _ _ h => h) (Or.inl ⟨by rfl,?_⟩) ?_ ?_;rotate_left
               ·intro w';go_simp;with_reducible rfl
               rotate_left
               ·simp only [Act.put,List.setIfInBounds_toArray,List.set_cons_zero,List.set_cons_succ,i64_w,i32_w];rfl
               refine pure_ (i := 2) (N := some 87) (v := ?_) (a' := ?_) #[true,true,true,false,false,false,false,false,false,false,false,false,false,false,false,false,false,false,false,false,false,false,false,false] rfl rfl (any_of HT_.out (by kernel_rfl)) (fun _ _ _ h => h) (Or.inl ⟨by rfl,?_⟩) ?_ ?_;rotate_left
               ·intro w';go_simp;with_reducible rfl
               rotate_left
               ·simp only [Act.put,List.setIfInBounds_toArray,List.set_cons_zero,List.set_cons_succ,i64_w,i32_w];rfl
               refine pure_ (i := 3) (N := some 88) (v := ?_) (a' := ?_) #[true,true,true,true,false,false,false,false,false,false,false,false,false,false,false,false,false,false,false,false,false,false,false,false] rfl rfl (any_of HT_.out (by kernel_rfl)) (fun _ _ _ h => h) (Or.inl ⟨by rfl,?_⟩) ?_ ?_;rotate_left
               ·intro w';go_simp;with_reducible rfl
               rotate_left
               ·simp only [Act.put,List.setIfInBounds_toArray,List.set_cons_zero,List.set_cons_succ,i64_w,i32_w];rfl
               refine pure_ (i := 4) (N := some 89) (v := ?_) (a' := ?_) #[true,true,true,true,true,false,false,false,false,false,false,false,false,false,false,false,false,false,false,false,false,false,false,false] rfl rfl (any_of HT_.out (by kernel_rfl)) (fun _ _ _ h => h) (Or.inl ⟨by rfl,?_⟩) ?_ ?_;rotate_left
               ·intro w';go_simp;with_reducible rfl
               rotate_left
               ·simp only [Act.put,List.setIfInBounds_toArray,List.set_cons_zero,List.set_cons_succ,i64_w,i32_w];rfl
               refine pure_ (i := 5) (N := some 90) (v := undef) (a' := ?_) #[true,true,true,true,true,true,false,false,false,false,false,false,false,false,false,false,false,false,false,false,false,false,false,false] rfl rfl (any_of HT_.out (by kernel_rfl)) (fun _ _ _ h => h) (Or.inr ⟨by rfl,rfl⟩) ?_ ?_;rotate_left
               ·simp only [Act.put,List.setIfInBounds_toArray,List.set_cons_zero,List.set_cons_succ,i64_w,i32_w];rfl
               refine pure_ (i := 6) (N := some 91) (v := undef) (a' := ?_) #[true,true,true,true,true,true,true,false,false,false,false,false,false,false,false,false,false,false,false,false,false,false,false,false] rfl rfl (any_of HT_.out (by kernel_rfl)) (fun _ _ _ h => h) (Or.inr ⟨by rfl,rfl⟩) ?_ ?_;rotate_left
               ·simp only [Act.put,List.setIfInBounds_toArray,List.set_cons_zero,List.set_cons_succ,i64_w,i32_w];rfl
               refine pure_ (i := 7) (N := some 92) (v := undef) (a' := ?_) #[true,true,true,true,true,true,true,true,false,false,false,false,false,false,false,false,false,false,false,false,false,false,false,false] rfl rfl (any_of HT_.out (by kernel_rfl)) (fun _ _ _ h => h) (Or.inr ⟨by rfl,rfl⟩) ?_ ?_;rotate_left
               ·simp only [Act.put,List.setIfInBounds_toArray,List.set_cons_zero,List.set_cons_succ,i64_w,i32_w];rfl
               refine pure_ (i := 8) (N := some 93) (v := undef) (a' := ?_) #[true,true,true,true,true,true,true,true,true,false,false,false,false,false,false,false,false,false,false,false,false,false,false,false] rfl rfl (any_of HT_.out (by kernel_rfl)) (fun _ _ _ h => h) (Or.inr ⟨by rfl,rfl⟩) ?_ ?_;rotate_left
               ·simp only [Act.put,List.setIfInBounds_toArray,List.set_cons_zero,List.set_cons_succ,i64_w,i32_w];rfl
               refine pure_ (i := 9) (N := some 94) (v := undef) (a' := ?_) #[true,true,true,true,true,true,true,true,true,true,false,false,false,false,false,false,false,false,false,false,false,false,false,false] rfl rfl (any_of HT_.out (by kernel_rfl)) (fun _ _ _ h => h) (Or.inr ⟨by rfl,rfl⟩) ?_ ?_;rotate_left
               ·simp only [Act.put,List.setIfInBounds_toArray,List.set_cons_zero,List.set_cons_succ,i64_w,i32_w];rfl
               refine pure_ (i := 10) (N := some 95) (v := undef) (a' := ?_) #[true,true,true,true,true,true,true,true,true,true,true,false,false,false,false,false,false,false,false,false,false,false,false,false] rfl rfl (any_of HT_.out (by kernel_rfl)) (fun _ _ _ h => h) (Or.inr ⟨by rfl,rfl⟩) ?_ ?_;rotate_left
               ·simp only [Act.put,List.setIfInBounds_toArray,List.set_cons_zero,List.set_cons_succ,i64_w,i32_w];rfl
               refine pure_ (i := 11) (N := some 96) (v := undef) (a' := ?_) #[true,true,true,true,true,true,true,true,true,true,true,true,false,false,false,false,false,false,false,false,false,false,false,false] rfl rfl (any_of HT_.out (by kernel_rfl)) (fun _ _ _ h => h) (Or.inr ⟨by rfl,rfl⟩) ?_ ?_;rotate_left
               ·simp only [Act.put,List.setIfInBounds_toArray,List.set_cons_zero,List.set_cons_succ,i64_w,i32_w];rfl
               refine pure_ (i := 12) (N := some 97) (v := undef) (a' := ?_) #[true,true,true,true,true,true,true,true,true,true,true,true,true,false,false,false,false,false,false,false,false,false,false,false] rfl rfl (any_of HT_.out (by kernel_rfl)) (fun _ _ _ h => h) (Or.inr ⟨by rfl,rfl⟩) ?_ ?_;rotate_left
               ·simp only [Act.put,List.setIfInBounds_toArray,List.set_cons_zero,List.set_cons_succ,i64_w,i32_w];rfl
               refine pure_ (i := 13) (N := some 98) (v := undef) (a' := ?_) #[true,true,true,true,true,true,true,true,true,true,true,true,true,true,false,false,false,false,false,false,false,false,false,false] rfl rfl (any_of HT_.out (by kernel_rfl)) (fun _ _ _ h => h) (Or.inr ⟨by rfl,rfl⟩) ?_ ?_;rotate_left
               ·simp only [Act.put,List.setIfInBounds_toArray,List.set_cons_zero,List.set_cons_succ,i64_w,i32_w];rfl
               refine pure_ (i := 14) (N := some 99) (v := undef) (a' := ?_) #[true,true,true,true,true,true,true,true,true,true,true,true,true,true,true,false,false,false,false,false,false,false,false,false] rfl rfl (any_of HT_.out (by kernel_rfl)) (fun _ _ _ h => h) (Or.inr ⟨by rfl,rfl⟩) ?_ ?_;rotate_left
               ·simp only [Act.put,List.setIfInBounds_toArray,List.set_cons_zero,List.set_cons_succ,i64_w,i32_w];rfl
               refine pure_ (i := 15) (N := some 100) (v := undef) (a' := ?_) #[true,true,true,true,true,true,true,true,true,true,true,true,true,true,true,true,false,false,false,false,false,false,false,false] rfl rfl (any_of HT_.out (by kernel_rfl)) (fun _ _ _ h => h) (Or.inr ⟨by rfl,rfl⟩) ?_ ?_;rotate_left
               ·simp only [Act.put,List.setIfInBounds_toArray,List.set_cons_zero,List.set_cons_succ,i64_w,i32_w];rfl
               refine pure_ (i := 16) (N := some 101) (v := undef) (a' := ?_) #[true,true,true,true,true,true,true,true,true,true,true,true,true,true,true,true,true,false,false,false,false,false,false,false] rfl rfl (any_of HT_.out (by kernel_rfl)) (fun _ _ _ h => h) (Or.inr ⟨by rfl,rfl⟩) ?_ ?_;rotate_left
               ·simp only [Act.put,List.setIfInBounds_toArray,List.set_cons_zero,List.set_cons_succ,i64_w,i32_w];rfl
               refine pure_ (i := 17) (N := some 102) (v := undef) (a' := ?_) #[true,true,true,true,true,true,true,true,true,true,true,true,true,true,true,true,true,true,false,false,false,false,false,false] rfl rfl (any_of HT_.out (by kernel_rfl)) (fun _ _ _ h => h) (Or.inr ⟨by rfl,rfl⟩) ?_ ?_;rotate_left
               ·simp only [Act.put,List.setIfInBounds_toArray,List.set_cons_zero,List.set_cons_succ,i64_w,i32_w];rfl
               refine pure_ (i := 18) (N := some 103) (v := undef) (a' := ?_) #[true,true,true,true,true,true,true,true,true,true,true,true,true,true,true,true,true,true,true,false,false,false,false,false] rfl rfl (any_of HT_.out (by kernel_rfl)) (fun _ _ _ h => h) (Or.inr ⟨by rfl,rfl⟩) ?_ ?_;rotate_left
               ·simp only [Act.put,List.setIfInBounds_toArray,List.set_cons_zero,List.set_cons_succ,i64_w,i32_w];rfl
               refine pure_ (i := 19) (N := some 104) (v := undef) (a' := ?_) #[true,true,true,true,true,true,true,true,true,true,true,true,true,true,true,true,true,true,true,true,false,false,false,false] rfl rfl (any_of HT_.out (by kernel_rfl)) (fun _ _ _ h => h) (Or.inr ⟨by rfl,rfl⟩) ?_ ?_;rotate_left
               ·simp only [Act.put,List.setIfInBounds_toArray,List.set_cons_zero,List.set_cons_succ,i64_w,i32_w];rfl
               refine pure_ (i := 20) (N := some 105) (v := undef) (a' := ?_) #[true,true,true,true,true,true,true,true,true,true,true,true,true,true,true,true,true,true,true,true,true,false,false,false] rfl rfl (any_of HT_.out (by kernel_rfl)) (fun _ _ _ h => h) (Or.inr ⟨by rfl,rfl⟩) ?_ ?_;rotate_left
               ·simp only [Act.put,List.setIfInBounds_toArray,List.set_cons_zero,List.set_cons_succ,i64_w,i32_w];rfl
               refine pure_ (i := 21) (N := some 106) (v := undef) (a' := ?_) #[true,true,true,true,true,true,true,true,true,true,true,true,true,true,true,true,true,true,true,true,true,true,false,false] rfl rfl (any_of HT_.out (by kernel_rfl)) (fun _ _ _ h => h) (Or.inr ⟨by rfl,rfl⟩) ?_ ?_;rotate_left
               ·simp only [Act.put,List.setIfInBounds_toArray,List.set_cons_zero,List.set_cons_succ,i64_w,i32_w];rfl
               refine pure_ (i := 22) (N := some 107) (v := ?_) (a' := ?_) #[true,true,true,true,true,true,true,true,true,true,true,true,true,true,true,true,true,true,true,true,true,true,true,false] rfl rfl (any_of HT_.out (by kernel_rfl)) (fun _ _ _ h => h) (Or.inl ⟨by rfl,?_⟩) ?_ ?_;rotate_left
               ·intro w';go_simp;with_reducible rfl
               rotate_left
               ·simp only [Act.put,List.setIfInBounds_toArray,List.set_cons_zero,List.set_cons_succ,i64_w,i32_w];rfl
               refine pure_ (i := 23) (N := some 84) (v := ?_) (a' := ?_) #[true,true,true,true,true,true,true,true,true,true,true,true,true,true,true,true,true,true,true,true,true,true,true,true] rfl rfl (any_of HT_.out (by kernel_rfl)) (fun _ _ _ h => h) (Or.inl ⟨by rfl,?_⟩) ?_ ?_;rotate_left
               ·intro w';go_simp;with_reducible rfl
               rotate_left
               ·simp only [Act.put,List.setIfInBounds_toArray,List.set_cons_zero,List.set_cons_succ,i64_w,i32_w];rfl
               refine done_ (done_of HT_.out (by kernel_rfl)) ?_
               try go_wp2_with (first | ((with_reducible refine gate_builtin (b := .append) (xs := #[.tmp 43,.tmp 46]) rfl ?_);(try (refine gate_guard (by rfl) ?_;dsimp only));at_builtin;refine Kd.R_append k100 (w0 := w) w.heap.size rfl (.tmp 43) (.tmp 46) 52 100 (.agg #[(.int .i64 0),(.int .i64 0)]) 16 rfl Try.underlying52 info100 rfl (by decide) (by omega) u6 x6_1 (⟨(-1),x8_1⟩ : S100) [.int .i64 (-1),.int .i64 x8_1] (fun _ => True) (fun _ => False) rfl rfl ?aP (fun _ hk => hk.elim) ?aF ?aO ?aB ?aS ?aL ?_;(case aP => exact k100_mkM _ _ _ (⟨(-1),x8_1⟩ : S100));(case aB => exact (by repeat (first | (with_reducible first | exact HB.out | apply below_alloc | apply pw_below_drewN | apply below_drew1) | exact HB.out)));(case aF => exact (fun _ _ => trivial));(case aO => exact (by (with_reducible repeat (first | apply Kd.R_alloc | apply Kd.R_drewN | apply Kd.R_drew));exact HO_6.out));(case aS => exact (below_size (by repeat (first | (with_reducible first | exact HB.out | apply below_alloc | apply pw_below_drewN | apply below_drew1) | exact HB.out))));(case aL => have := LMc57.out;omega);intro v128 w59 ho hb hg hat;rw [← Ny127.out] at ho;have n0_ := Aside0.mk (Kd.S_over' (by (with_reducible repeat (first | apply Kd.S_alloc | apply Kd.S_drewN | apply Kd.S_drew));exact HO_5.out) (Kd.R_typed (by (with_reducible repeat (first | apply Kd.R_alloc | apply Kd.R_drewN | apply Kd.R_drew));exact HO_6.out)) (by decide) hg);have n1_ := Aside0.mk (hb);have n2_ := Aside0.mk (ho);clear HO_5;clear HB;clear HO_6;have HO_5 := n0_;have HB := n1_;have HO129 := n2_;clear n0_ n1_ n2_;clear ho hb hg hat))
               go_roundg kj20
               case measure => have := HK1.out;have := HJ6.out;have := HJ9.out;have := HJ11.out;have := HJ20.out;omega
               case rel => exact ⟨(y127),(x7_1),(wrap64 (x8_1 + 1)),(by first | rfl | (simp only [IntKind.wrap_i64,wrap64];done) | (simp;done) | (simp [*];done)),(by first | rfl | (simp only [IntKind.wrap_i64,wrap64];done) | (simp;done) | (simp [*];done)),H',⟨by have := HK1.out;have := HJ6.out;have := HJ9.out;have := HJ11.out;have := HJ20.out;omega⟩,⟨by (with_reducible repeat (first | apply Kd.S_alloc | apply Kd.S_drewN | apply Kd.S_drew));exact HO_5.out⟩,⟨by (with_reducible repeat (first | apply Kd.R_alloc | apply Kd.R_drewN | apply Kd.R_drew));exact HO129.out⟩,⟨by repeat (first | (with_reducible first | exact HB.out | apply below_alloc | apply pw_below_drewN | apply below_drew1) | exact HB.out)⟩⟩
              ·rw [if_neg c57] at H;exact absurd H (by simp)
     ·replace c9 := Bool.eq_false_iff.mpr c9;subst c9
      have H1 : (some x6_1) = some r := by rw [if_neg (show ¬ (false = true) by decide)] at H;exact H
      clear H;have H := H1;clear H1;obtain rfl := Option.some.inj H
      go_wp2
      go_ret
      exact ⟨_,by first | rfl | (simp [errW_none,errW_some,IntKind.wrap_i64,wrap64];done) | (simp [errW_none,errW_some] <;> rfl) | (simp [*,errW_none,errW_some] <;> rfl),by (with_reducible repeat (first | apply Kd.R_alloc | apply Kd.R_drewN | apply Kd.R_drew));exact HO_6.out,by repeat (first | (with_reducible first | exact HB.out | apply below_alloc | apply pw_below_drewN | apply below_drew1) | exact HB.out)⟩
end Go.Proofs.Ytidkniacmcbgiaa.G
end

section
namespace Go.Proofs.Ytidkniacmcbgiaa.G
open Go.RowKit Go.Proofs.YtidkniacmcbgiaaW.PrintWords Go.Proofs.YtidkniacmcbgiaaW.PrintLast Go.Proofs.YtidkniacmcbgiaaW.PrintMore
attribute [local go_sem] max2_int min2_int max_two min_two max_three min_three max_four min_four
set_option linter.unusedVariables false
set_option linter.unusedSimpArgs false
def spec_StoryOf.f (k : Nat) (l0 : List (S73)) (l1 : List (S73)) : Option ((List (S100)) × Int) := (spec_l07Ok.f k l0).bind fun t101 => (if t101 = true then ((spec_l07Ok.f k l1).bind fun t102 => (if t102 = true then ((spec_l07Story.f k l0 l1).bind fun t103 => (some (t103,0))) else (some ((([] : List (S100))),1)))) else (some ((([] : List (S100))),1)))
set_option maxHeartbeats 8000000 in
set_option maxRecDepth 100000 in
theorem spec_StoryOf.calls (k : Nat) (A0 : Option Addr) (c0 : Nat) (l0 : List (S73)) (A1 : Option Addr) (c1 : Nat) (l1 : List (S73)) (r1 : List (S100)) (r2 : Int) (w : World) (hr0 : Kd.C k73 w A0 l0.length l0) (hc0 : l0.length ≤ c0) (hr1 : Kd.C k73 w A1 l1.length l1) (hc1 : l1.length ≤ c1) (h : spec_StoryOf.f k l0 l1 = some (r1,r2)) :
  Calls Try.prog 62 #[.slice A0 l0.length c0,.slice A1 l1.length c1] w fun e w' => ∃ v0_ : Value,e = .returned (.tuple #[v0_,.int .i64 r2]) ∧ Kd.R k100 100 w' w.heap.size (fun _ => True) v0_ r1 ∧ Below w.heap.size w w' := by
 have HR0 := Aside0.mk hr0;have HC0 := Aside0.mk hc0;clear hr0 hc0;have HR1 := Aside0.mk hr1;have HC1 := Aside0.mk hc1;clear hr1 hc1;have HB := Aside0.mk (Below.refl w.heap.size w);have H : ((spec_l07Ok.f k l0).bind fun t101 => (if t101 = true then ((spec_l07Ok.f k l1).bind fun t102 => (if t102 = true then ((spec_l07Story.f k l0 l1).bind fun t103 => (some (t103,0))) else (some ((([] : List (S100))),1)))) else (some ((([] : List (S100))),1)))) = some (r1,r2) := h;clear h;replace H := Option.bind_eq_some_iff.mp H;obtain ⟨t101,A30,H⟩ := H;replace H : (if t101 = true then ((spec_l07Ok.f k l1).bind fun t102 => (if t102 = true then ((spec_l07Story.f k l0 l1).bind fun t103 => (some (t103,0))) else (some ((([] : List (S100))),1)))) else (some ((([] : List (S100))),1))) = some (r1,r2) := H;have A3 := Aside0.mk A30;clear A30
 by_cases c4 : t101 = true
 ·subst c4
  have H1 : ((spec_l07Ok.f k l1).bind fun t102 => (if t102 = true then ((spec_l07Story.f k l0 l1).bind fun t103 => (some (t103,0))) else (some ((([] : List (S100))),1)))) = some (r1,r2) := by rw [if_pos rfl] at H;exact H
  clear H;have H := H1;clear H1;replace H := Option.bind_eq_some_iff.mp H;obtain ⟨t102,A50,H⟩ := H;replace H : (if t102 = true then ((spec_l07Story.f k l0 l1).bind fun t103 => (some (t103,0))) else (some ((([] : List (S100))),1))) = some (r1,r2) := H;have A5 := Aside0.mk A50;clear A50
  by_cases c6 : t102 = true
  ·subst c6
   have H1 : ((spec_l07Story.f k l0 l1).bind fun t103 => (some (t103,0))) = some (r1,r2) := by rw [if_pos rfl] at H;exact H
   clear H;have H := H1;clear H1;replace H := Option.bind_eq_some_iff.mp H;obtain ⟨t103,A70,H⟩ := H;replace H : (some (t103,0)) = some (r1,r2) := H;have A7 := Aside0.mk A70;clear A70;simp only [Option.some.injEq,Prod.mk.injEq] at H;obtain ⟨rfl,rfl⟩ := H
   go_enter Try.func62,Try.ntmps62
   go_wp2_with (first | ((with_reducible refine gate_callee (f := 74) rfl ?_);refine goesL_ (some 7) rfl rfl Try.func74 (by kernel_rfl) rfl #[.slice A0 l0.length c0] rfl (by (try simp only [List.map_toArray,List.map_cons,List.map_nil]);first | done | rfl | (simp only [List.length_drop,List.length_take];rfl)) ?_;(with_reducible refine (spec_l07Ok.calls k _ _ l0 true _ ?side1 ?side2 A3.out).mono ?_);(case side1 => repeat (first | exact HR0.out | (with_reducible refine Kd.C_alloc ?_ _) | (with_reducible refine Kd.C_drewN ?_ _) | (with_reducible refine Kd.C_drew ?_)));(case side2 => exact HC0.out);rintro e w8 ⟨rfl,hb⟩;refine ⟨_,rfl,?_⟩;have n0_ := Aside0.mk (below_step (by repeat (first | (with_reducible first | exact HB.out | apply below_alloc | apply pw_below_drewN | apply below_drew1) | exact HB.out)) hb);clear HB;have HB := n0_;clear n0_;(try clear hb);(try clear hb2);(try clear hk);(try clear hi)) | (go_at_call 74;(with_reducible refine (spec_l07Ok.calls k _ _ l1 true _ ?side1 ?side2 A5.out).mono ?_);(case side1 => repeat (first | exact (Kd.C_below HR1.out HB.out) | (with_reducible refine Kd.C_alloc ?_ _) | (with_reducible refine Kd.C_drewN ?_ _) | (with_reducible refine Kd.C_drew ?_)));(case side2 => exact HC1.out);rintro e w9 ⟨rfl,hb⟩;have n0_ := Aside0.mk (below_step (by repeat (first | (with_reducible first | exact HB.out | apply below_alloc | apply pw_below_drewN | apply below_drew1) | exact HB.out)) hb);clear HB;have HB := n0_;clear n0_;(try clear hb);(try clear hb2);(try clear hk);(try clear hi)) | ((with_reducible refine gate_callee (f := 110) rfl ?_);refine goesL_ (some 17) rfl rfl Try.func110 (by kernel_rfl) rfl #[.slice A0 l0.length c0,.slice A1 l1.length c1] rfl (by (try simp only [List.map_toArray,List.map_cons,List.map_nil]);first | done | rfl | (simp only [List.length_drop,List.length_take];rfl)) ?_;(with_reducible refine (spec_l07Story.calls k _ _ l0 _ _ l1 t103 _ ?side1 ?side2 ?side3 ?side4 A7.out).mono ?_);(case side1 => repeat (first | exact (Kd.C_below HR0.out HB.out) | (with_reducible refine Kd.C_alloc ?_ _) | (with_reducible refine Kd.C_drewN ?_ _) | (with_reducible refine Kd.C_drew ?_)));(case side2 => exact HC0.out);(case side3 => repeat (first | exact (Kd.C_below HR1.out HB.out) | (with_reducible refine Kd.C_alloc ?_ _) | (with_reducible refine Kd.C_drewN ?_ _) | (with_reducible refine Kd.C_drew ?_)));(case side4 => exact HC1.out);rintro e w10 ⟨v104,rfl,ho0,hb⟩;refine ⟨_,rfl,?_⟩;have n0_ := Aside0.mk (Kd.R_lower ho0 (below_size (by repeat (first | (with_reducible first | exact HB.out | apply below_alloc | apply pw_below_drewN | apply below_drew1) | exact HB.out))));have n1_ := Aside0.mk (below_step (by repeat (first | (with_reducible first | exact HB.out | apply below_alloc | apply pw_below_drewN | apply below_drew1) | exact HB.out)) hb);clear HB;have HO105 := n0_;have HB := n1_;clear n0_ n1_;(try clear hb);(try clear hb2);(try clear hk);(try clear hi);(try clear ho0)))
   go_ret2
   exact ⟨_,by first | rfl | (simp [errW_none,errW_some,IntKind.wrap_i64,wrap64];done) | (simp [errW_none,errW_some] <;> rfl) | (simp [*,errW_none,errW_some] <;> rfl),by (with_reducible repeat (first | apply Kd.R_alloc | apply Kd.R_drewN | apply Kd.R_drew));exact HO105.out,by repeat (first | (with_reducible first | exact HB.out | apply below_alloc | apply pw_below_drewN | apply below_drew1) | exact HB.out)⟩
  ·replace c6 := Bool.eq_false_iff.mpr c6;subst c6
   have H1 : (some ((([] : List (S100))),1)) = some (r1,r2) := by rw [if_neg (show ¬ (false = true) by decide)] at H;exact H
   clear H;have H := H1;clear H1;obtain ⟨y106,hy106⟩ : ∃ y_ : List (S100),y_ = (([] : List (S100))) := ⟨_,rfl⟩
   replace H : (some (y106,1)) = some (r1,r2) := by first | (rw [hy106];with_reducible exact H) | (have H2_ := (Option.bind_some _ _).symm.trans H;rw [hy106];with_reducible exact H2_) | (have H2_ := (Option.bind_some _ _).symm.trans H;with_reducible exact H2_) | with_reducible exact H | (rw [hy106];exact H) | exact H
   have Ny106 := Aside0.mk hy106;clear hy106;simp only [Option.some.injEq,Prod.mk.injEq] at H;obtain ⟨rfl,rfl⟩ := H
   go_enter Try.func62,Try.ntmps62
   go_wp2_with (first | ((with_reducible refine gate_callee (f := 74) rfl ?_);refine goesL_ (some 7) rfl rfl Try.func74 (by kernel_rfl) rfl #[.slice A0 l0.length c0] rfl (by (try simp only [List.map_toArray,List.map_cons,List.map_nil]);first | done | rfl | (simp only [List.length_drop,List.length_take];rfl)) ?_;(with_reducible refine (spec_l07Ok.calls k _ _ l0 true _ ?side1 ?side2 A3.out).mono ?_);(case side1 => repeat (first | exact HR0.out | (with_reducible refine Kd.C_alloc ?_ _) | (with_reducible refine Kd.C_drewN ?_ _) | (with_reducible refine Kd.C_drew ?_)));(case side2 => exact HC0.out);rintro e w11 ⟨rfl,hb⟩;refine ⟨_,rfl,?_⟩;have n0_ := Aside0.mk (below_step (by repeat (first | (with_reducible first | exact HB.out | apply below_alloc | apply pw_below_drewN | apply below_drew1) | exact HB.out)) hb);clear HB;have HB := n0_;clear n0_;(try clear hb);(try clear hb2);(try clear hk);(try clear hi)) | (go_at_call 74;(with_reducible refine (spec_l07Ok.calls k _ _ l1 false _ ?side1 ?side2 A5.out).mono ?_);(case side1 => repeat (first | exact (Kd.C_below HR1.out HB.out) | (with_reducible refine Kd.C_alloc ?_ _) | (with_reducible refine Kd.C_drewN ?_ _) | (with_reducible refine Kd.C_drew ?_)));(case side2 => exact HC1.out);rintro e w12 ⟨rfl,hb⟩;have n0_ := Aside0.mk (below_step (by repeat (first | (with_reducible first | exact HB.out | apply below_alloc | apply pw_below_drewN | apply below_drew1) | exact HB.out)) hb);clear HB;have HB := n0_;clear n0_;(try clear hb);(try clear hb2);(try clear hk);(try clear hi)) | ((with_reducible refine gate_dst (N := 14) rfl ?_);refine Kd.R_lit k100 _ 100 ?hg (N := 14) ?hd (xs := ([] : List (S100))) (inner := []) (ok := fun _ => True) (okp := fun _ => True) ?hr ?hp (fun _ hk => hk) trivial (Below.refl _ _) (Nat.le_refl _) (by simp) ?_;(case hd => rfl);(case hg => rfl);(case hr => first | (go_simp;done) | (go_simp;rfl));(case hp => exact (Reps.none _ _));intro v107 w13 ho14 hb hg_ hnew_;clear hg_ hnew_;(first | rw [← Ny106.out] at ho14 | (simp only [Int.reduceToNat] at ho14;rw [← Ny106.out] at ho14));have n0_ := Aside0.mk (Kd.R_lower ho14 (below_size (by repeat (first | (with_reducible first | exact HB.out | apply below_alloc | apply pw_below_drewN | apply below_drew1) | exact HB.out))));have n1_ := Aside0.mk (below_step (by repeat (first | (with_reducible first | exact HB.out | apply below_alloc | apply pw_below_drewN | apply below_drew1) | exact HB.out)) hb);clear HB;have HO108 := n0_;have HB := n1_;clear n0_ n1_;clear hb ho14))
   go_ret2
   exact ⟨_,by first | rfl | (simp [errW_none,errW_some,IntKind.wrap_i64,wrap64];done) | (simp [errW_none,errW_some] <;> rfl) | (simp [*,errW_none,errW_some] <;> rfl),by (with_reducible repeat (first | apply Kd.R_alloc | apply Kd.R_drewN | apply Kd.R_drew));exact HO108.out,by repeat (first | (with_reducible first | exact HB.out | apply below_alloc | apply pw_below_drewN | apply below_drew1) | exact HB.out)⟩
 ·replace c4 := Bool.eq_false_iff.mpr c4;subst c4
  have H1 : (some ((([] : List (S100))),1)) = some (r1,r2) := by rw [if_neg (show ¬ (false = true) by decide)] at H;exact H
  clear H;have H := H1;clear H1;obtain ⟨y109,hy109⟩ : ∃ y_ : List (S100),y_ = (([] : List (S100))) := ⟨_,rfl⟩
  replace H : (some (y109,1)) = some (r1,r2) := by first | (rw [hy109];with_reducible exact H) | (have H2_ := (Option.bind_some _ _).symm.trans H;rw [hy109];with_reducible exact H2_) | (have H2_ := (Option.bind_some _ _).symm.trans H;with_reducible exact H2_) | with_reducible exact H | (rw [hy109];exact H) | exact H
  have Ny109 := Aside0.mk hy109;clear hy109;simp only [Option.some.injEq,Prod.mk.injEq] at H;obtain ⟨rfl,rfl⟩ := H
  go_enter Try.func62,Try.ntmps62
  go_wp2_with (first | ((with_reducible refine gate_callee (f := 74) rfl ?_);refine goesL_ (some 7) rfl rfl Try.func74 (by kernel_rfl) rfl #[.slice A0 l0.length c0] rfl (by (try simp only [List.map_toArray,List.map_cons,List.map_nil]);first | done | rfl | (simp only [List.length_drop,List.length_take];rfl)) ?_;(with_reducible refine (spec_l07Ok.calls k _ _ l0 false _ ?side1 ?side2 A3.out).mono ?_);(case side1 => repeat (first | exact HR0.out | (with_reducible refine Kd.C_alloc ?_ _) | (with_reducible refine Kd.C_drewN ?_ _) | (with_reducible refine Kd.C_drew ?_)));(case side2 => exact HC0.out);rintro e w15 ⟨rfl,hb⟩;refine ⟨_,rfl,?_⟩;have n0_ := Aside0.mk (below_step (by repeat (first | (with_reducible first | exact HB.out | apply below_alloc | apply pw_below_drewN | apply below_drew1) | exact HB.out)) hb);clear HB;have HB := n0_;clear n0_;(try clear hb);(try clear hb2);(try clear hk);(try clear hi)) | ((with_reducible refine gate_dst (N := 14) rfl ?_);refine Kd.R_lit k100 _ 100 ?hg (N := 14) ?hd (xs := ([] : List (S100))) (inner := []) (ok := fun _ => True) (okp := fun _ => True) ?hr ?hp (fun _ hk => hk) trivial (Below.refl _ _) (Nat.le_refl _) (by simp) ?_;(case hd => rfl);(case hg => rfl);(case hr => first | (go_simp;done) | (go_simp;rfl));(case hp => exact (Reps.none _ _));intro v110 w16 ho17 hb hg_ hnew_;clear hg_ hnew_;(first | rw [← Ny109.out] at ho17 | (simp only [Int.reduceToNat] at ho17;rw [← Ny109.out] at ho17));have n0_ := Aside0.mk (Kd.R_lower ho17 (below_size (by repeat (first | (with_reducible first | exact HB.out | apply below_alloc | apply pw_below_drewN | apply below_drew1) | exact HB.out))));have n1_ := Aside0.mk (below_step (by repeat (first | (with_reducible first | exact HB.out | apply below_alloc | apply pw_below_drewN | apply below_drew1) | exact HB.out)) hb);clear HB;have HO111 := n0_;have HB := n1_;clear n0_ n1_;clear hb ho17))
  go_ret2
  exact ⟨_,by first | rfl | (simp [errW_none,errW_some,IntKind.wrap_i64,wrap64];done) | (simp [errW_none,errW_some] <;> rfl) | (simp [*,errW_none,errW_some] <;> rfl),by (with_reducible repeat (first | apply Kd.R_alloc | apply Kd.R_drewN | apply Kd.R_drew));exact HO111.out,by repeat (first | (with_reducible first | exact HB.out | apply below_alloc | apply pw_below_drewN | apply below_drew1) | exact HB.out)⟩
end Go.Proofs.Ytidkniacmcbgiaa.G
end
