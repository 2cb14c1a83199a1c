/- The law's functions, their contracts, and the plain lemmas: texts of this claim, laid together. -/
import Derived.Test.YtidkniacmcbgiaaMFnExactStoryOf0
section
namespace Go.Proofs.Ytidkniacmcbgiaa.G
open Go.RowKit Go.Proofs.YtidkniacmcbgiaaW.PrintWords Go.Proofs.YtidkniacmcbgiaaW.PrintLast Go.Proofs.YtidkniacmcbgiaaW.PrintMore
attribute [local go_sem] max2_int min2_int max_two min_two max_three min_three max_four min_four
set_option linter.unusedVariables false
set_option linter.unusedSimpArgs false
def impl_faults_1.f (l0 : List (List Int)) (a1 : Int) (a2 : Int) (l3 : List (S73)) (l4 : List (S73)) : Option (Int) := if a1 = (l3.length : Int) then (some (wrap64 (2 * (wrap64 ((l4.length : Int) - a2))))) else (if a2 = (l4.length : Int) then (some (wrap64 (1 * (wrap64 ((l3.length : Int) - a1))))) else (if 0 ≤ (wrap64 (a1 + 1)) then (if (wrap64 (a1 + 1)) < (l0.length : Int) then (if 0 ≤ a2 then (if a2 < ((rd_L6 l0 (wrap64 (a1 + 1))).length : Int) then (if 0 ≤ a1 then (if a1 < (l0.length : Int) then (if 0 ≤ (wrap64 (a2 + 1)) then (if (wrap64 (a2 + 1)) < ((rd_L6 l0 a1).length : Int) then (if a1 < (l3.length : Int) then (if a2 < (l4.length : Int) then ((impl_stepFaults.f ((rd_T73 l3 a1).f0) ((rd_T73 l3 a1).f1) ((rd_T73 l3 a1).f2) ((rd_T73 l4 a2).f0) ((rd_T73 l4 a2).f1) ((rd_T73 l4 a2).f2)).bind fun bt107 => (if bt107.2 = true then (if (wrap64 (a2 + 1)) < ((rd_L6 l0 (wrap64 (a1 + 1))).length : Int) then (some (mn (mn (wrap64 ((rd (rd_L6 l0 (wrap64 (a1 + 1))) a2) + 1)) (wrap64 ((rd (rd_L6 l0 a1) (wrap64 (a2 + 1))) + 2))) (wrap64 ((rd (rd_L6 l0 (wrap64 (a1 + 1))) (wrap64 (a2 + 1))) + bt107.1)))) else (none)) else (some (mn (wrap64 ((rd (rd_L6 l0 (wrap64 (a1 + 1))) a2) + 1)) (wrap64 ((rd (rd_L6 l0 a1) (wrap64 (a2 + 1))) + 2)))))) else (none)) else (none)) else (none)) else (none)) else (none)) else (none)) else (none)) else (none)) else (none)) else (none)))
def impl_faults_1.T5 : Bool × List (List Nat × List Nat) := (true,[([],[]),([],[]),([1],[1]),([0,2],[0,2]),([3],[3]),([],[]),([4,5],[4,5]),([6],[6]),([7],[7]),([],[]),([],[]),([9,10],[9,10]),([11],[11]),([],[]),([13],[13]),([12,14],[12,14]),([15],[15]),([16],[16]),([8,17],[8,17]),([18,0,1,2,3,4,5,6,7,8,9,10,11,12,13,14,15,16,17,18],[18])])
def impl_faults_1.B5 : List Nat := [0,0,2,7,15,0,63,127,255,0,0,1536,3584,0,8192,32256,65024,130560,262143,524287]
theorem impl_faults_1.tab5 : rtab .any (opsOf Try.f120 5) = impl_faults_1.T5 := by kernel_rfl
theorem impl_faults_1.bits5 : waitsOk impl_faults_1.T5.2 impl_faults_1.B5 = true := by kernel_rfl
def impl_faults_1.T6 : Bool × List (List Nat × List Nat) := (true,[([],[]),([],[]),([0,1],[0,1]),([2],[2]),([],[]),([],[]),([4,5],[4,5]),([6],[6]),([3,7],[3,7]),([8],[8]),([9],[9]),([9],[9]),([10,8,0,1,2,3,4,5,6,7,8,9,10],[10]),([11,12,0,1,2,3,4,5,6,7,8,9,10,11,12],[11])])
def impl_faults_1.B6 : List Nat := [0,0,3,7,0,0,48,112,255,511,1023,1023,2047,8191]
theorem impl_faults_1.tab6 : rtab .any (opsOf Try.f120 6) = impl_faults_1.T6 := by kernel_rfl
theorem impl_faults_1.bits6 : waitsOk impl_faults_1.T6.2 impl_faults_1.B6 = true := by kernel_rfl
set_option maxHeartbeats 8000000 in
set_option maxRecDepth 100000 in
theorem impl_faults_1.calls (A0 : Option Addr) (c0 : Nat) (l0 : List (List Int)) (a1 : Int) (a2 : Int) (A3 : Option Addr) (c3 : Nat) (l3 : List (S73)) (b3 : Nat) (A4 : Option Addr) (c4 : Nat) (l4 : List (S73)) (b4 : Nat) (r : Int) (w : World) (hr0 : Kd.C (Kd.slice 2 (Kd.int .i64)) w A0 l0.length l0) (hc0 : l0.length ≤ c0) (hr3 : Kd.C k73 w A3 l3.length l3) (hc3 : l3.length ≤ c3) (hr4 : Kd.C k73 w A4 l4.length l4) (hc4 : l4.length ≤ c4) (hb3 : w.heap[b3]? = some (.cells #[.slice A3 l3.length c3] 26 (0,0))) (hb4 : w.heap[b4]? = some (.cells #[.slice A4 l4.length c4] 26 (0,0))) (hn3_4 : b3 ≠ b4) (h : impl_faults_1.f l0 a1 a2 l3 l4 = some r) :
  Calls Try.prog 120 #[.slice A0 l0.length c0,.int .i64 a1,.int .i64 a2,.pointer (some ⟨b3,0,none⟩),.pointer (some ⟨b4,0,none⟩)] w fun e w' => e = .returned (.int .i64 r) ∧ Below w.heap.size w w' := by
 have hu73 := Try.underlying73;have HR0 := Aside0.mk hr0;have HC0 := Aside0.mk hc0;clear hr0 hc0;have HR3 := Aside0.mk hr3;have HC3 := Aside0.mk hc3;clear hr3 hc3;have HR4 := Aside0.mk hr4;have HC4 := Aside0.mk hc4;clear hr4 hc4;have BK3 := Aside0.mk hb3;clear hb3;have BK4 := Aside0.mk hb4;clear hb4;have NB3_4 := Aside0.mk hn3_4;have NB4_3 := Aside0.mk (Ne.symm hn3_4);clear hn3_4;have HB := Aside0.mk (Below.refl w.heap.size w);have H : (if a1 = (l3.length : Int) then (some (wrap64 (2 * (wrap64 ((l4.length : Int) - a2))))) else (if a2 = (l4.length : Int) then (some (wrap64 (1 * (wrap64 ((l3.length : Int) - a1))))) else (if 0 ≤ (wrap64 (a1 + 1)) then (if (wrap64 (a1 + 1)) < (l0.length : Int) then (if 0 ≤ a2 then (if a2 < ((rd_L6 l0 (wrap64 (a1 + 1))).length : Int) then (if 0 ≤ a1 then (if a1 < (l0.length : Int) then (if 0 ≤ (wrap64 (a2 + 1)) then (if (wrap64 (a2 + 1)) < ((rd_L6 l0 a1).length : Int) then (if a1 < (l3.length : Int) then (if a2 < (l4.length : Int) then ((impl_stepFaults.f ((rd_T73 l3 a1).f0) ((rd_T73 l3 a1).f1) ((rd_T73 l3 a1).f2) ((rd_T73 l4 a2).f0) ((rd_T73 l4 a2).f1) ((rd_T73 l4 a2).f2)).bind fun bt107 => (if bt107.2 = true then (if (wrap64 (a2 + 1)) < ((rd_L6 l0 (wrap64 (a1 + 1))).length : Int) then (some (mn (mn (wrap64 ((rd (rd_L6 l0 (wrap64 (a1 + 1))) a2) + 1)) (wrap64 ((rd (rd_L6 l0 a1) (wrap64 (a2 + 1))) + 2))) (wrap64 ((rd (rd_L6 l0 (wrap64 (a1 + 1))) (wrap64 (a2 + 1))) + bt107.1)))) else (none)) else (some (mn (wrap64 ((rd (rd_L6 l0 (wrap64 (a1 + 1))) a2) + 1)) (wrap64 ((rd (rd_L6 l0 a1) (wrap64 (a2 + 1))) + 2)))))) else (none)) else (none)) else (none)) else (none)) else (none)) else (none)) else (none)) else (none)) else (none)) else (none)))) = some r := h;clear h
 by_cases c6 : a1 = (l3.length : Int)
 ·rw [if_pos c6] at H;have c6b0 : (a1 == (l3.length : Int)) = true := beq_iff_eq.mpr c6;have c6b1 : (a1 != (l3.length : Int)) = false := bne_eq_false_iff_eq.mpr c6;clear c6;obtain rfl := Option.some.inj H;have hnb7 := NB3_4.out;have hnc7 := NB4_3.out;have hcz8_0 : w.cell? ⟨b3,0,none⟩ = some (.slice A3 l3.length c3) := (blk_cell BK3.out 0).trans rfl;have hfz8_0 := blk_frozen BK3.out 0;have hcz9_0 : w.cell? ⟨b4,0,none⟩ = some (.slice A4 l4.length c4) := (blk_cell BK4.out 0).trans rfl;have hfz9_0 := blk_frozen BK4.out 0
  go_enter Try.func120,Try.ntmps120
  go_wp2
  go_ret
  exact ⟨by first | rfl | (simp [errW_none,errW_some,IntKind.wrap_i64,wrap64];done) | (simp [errW_none,errW_some] <;> rfl) | (simp [*,errW_none,errW_some] <;> rfl),by repeat (first | (with_reducible first | exact HB.out | apply below_alloc | apply pw_below_drewN | apply below_drew1 | refine below_set ?_ GE3.out | refine below_set ?_ GE4.out) | exact HB.out)⟩
 ·rw [if_neg c6] at H;have c6b0 : (a1 == (l3.length : Int)) = false := beq_eq_false_iff_ne.mpr c6;have c6b1 : (a1 != (l3.length : Int)) = true := bne_iff_ne.mpr c6
  by_cases c10 : a2 = (l4.length : Int)
  ·rw [if_pos c10] at H;have c10b0 : (a2 == (l4.length : Int)) = true := beq_iff_eq.mpr c10;have c10b1 : (a2 != (l4.length : Int)) = false := bne_eq_false_iff_eq.mpr c10;clear c10;obtain rfl := Option.some.inj H;have hnb11 := NB3_4.out;have hnc11 := NB4_3.out;have hcz12_0 : w.cell? ⟨b3,0,none⟩ = some (.slice A3 l3.length c3) := (blk_cell BK3.out 0).trans rfl;have hfz12_0 := blk_frozen BK3.out 0;have hcz13_0 : w.cell? ⟨b4,0,none⟩ = some (.slice A4 l4.length c4) := (blk_cell BK4.out 0).trans rfl;have hfz13_0 := blk_frozen BK4.out 0
   go_enter Try.func120,Try.ntmps120
   go_wp2
   go_ret
   exact ⟨by first | rfl | (simp [errW_none,errW_some,IntKind.wrap_i64,wrap64];done) | (simp [errW_none,errW_some] <;> rfl) | (simp [*,errW_none,errW_some] <;> rfl),by repeat (first | (with_reducible first | exact HB.out | apply below_alloc | apply pw_below_drewN | apply below_drew1 | refine below_set ?_ GE3.out | refine below_set ?_ GE4.out) | exact HB.out)⟩
  ·rw [if_neg c10] at H;have c10b0 : (a2 == (l4.length : Int)) = false := beq_eq_false_iff_ne.mpr c10;have c10b1 : (a2 != (l4.length : Int)) = true := bne_iff_ne.mpr c10;obtain ⟨ji14,hji14⟩ : ∃ j_ : Int,(wrap64 (a1 + 1)) = j_ := ⟨_,rfl⟩
   replace H : (if 0 ≤ (ji14) then (if (ji14) < (l0.length : Int) then (if 0 ≤ a2 then (if a2 < ((rd_L6 l0 (ji14)).length : Int) then (if 0 ≤ a1 then (if a1 < (l0.length : Int) then (if 0 ≤ (wrap64 (a2 + 1)) then (if (wrap64 (a2 + 1)) < ((rd_L6 l0 a1).length : Int) then (if a1 < (l3.length : Int) then (if a2 < (l4.length : Int) then ((impl_stepFaults.f ((rd_T73 l3 a1).f0) ((rd_T73 l3 a1).f1) ((rd_T73 l3 a1).f2) ((rd_T73 l4 a2).f0) ((rd_T73 l4 a2).f1) ((rd_T73 l4 a2).f2)).bind fun bt107 => (if bt107.2 = true then (if (wrap64 (a2 + 1)) < ((rd_L6 l0 (ji14)).length : Int) then (some (mn (mn (wrap64 ((rd (rd_L6 l0 (ji14)) a2) + 1)) (wrap64 ((rd (rd_L6 l0 a1) (wrap64 (a2 + 1))) + 2))) (wrap64 ((rd (rd_L6 l0 (ji14)) (wrap64 (a2 + 1))) + bt107.1)))) else (none)) else (some (mn (wrap64 ((rd (rd_L6 l0 (ji14)) a2) + 1)) (wrap64 ((rd (rd_L6 l0 a1) (wrap64 (a2 + 1))) + 2)))))) else (none)) else (none)) else (none)) else (none)) else (none)) else (none)) else (none)) else (none)) else (none)) else (none)) = some r := by first | (rw [hji14] at H;exact H) | (simp only [hji14] at H ⊢;exact H)
   have hji14w : (IntKind.i64.wrap (a1 + 1)) = ji14 := (i64_w _).trans hji14
   by_cases c15 : 0 ≤ (ji14)
   ·rw [if_pos c15] at H;have c15b0 : decide (0 ≤ (ji14)) = true := decide_eq_true c15;clear c15
    by_cases c16 : (ji14) < (l0.length : Int)
    ·rw [if_pos c16] at H;have c16b0 : decide ((ji14) < (l0.length : Int)) = true := decide_eq_true c16;clear c16
     by_cases c17 : 0 ≤ a2
     ·rw [if_pos c17] at H;have c17b0 : decide (0 ≤ a2) = true := decide_eq_true c17;clear c17
      by_cases c18 : a2 < ((rd_L6 l0 (ji14)).length : Int)
      ·rw [if_pos c18] at H;have c18b0 : decide (a2 < ((rd_L6 l0 (ji14)).length : Int)) = true := decide_eq_true c18;clear c18
       by_cases c19 : 0 ≤ a1
       ·rw [if_pos c19] at H;have c19b0 : decide (0 ≤ a1) = true := decide_eq_true c19;clear c19
        by_cases c20 : a1 < (l0.length : Int)
        ·rw [if_pos c20] at H;have c20b0 : decide (a1 < (l0.length : Int)) = true := decide_eq_true c20;clear c20;obtain ⟨ji21,hji21⟩ : ∃ j_ : Int,(wrap64 (a2 + 1)) = j_ := ⟨_,rfl⟩
         replace H : (if 0 ≤ (ji21) then (if (ji21) < ((rd_L6 l0 a1).length : Int) then (if a1 < (l3.length : Int) then (if a2 < (l4.length : Int) then ((impl_stepFaults.f ((rd_T73 l3 a1).f0) ((rd_T73 l3 a1).f1) ((rd_T73 l3 a1).f2) ((rd_T73 l4 a2).f0) ((rd_T73 l4 a2).f1) ((rd_T73 l4 a2).f2)).bind fun bt107 => (if bt107.2 = true then (if (ji21) < ((rd_L6 l0 (ji14)).length : Int) then (some (mn (mn (wrap64 ((rd (rd_L6 l0 (ji14)) a2) + 1)) (wrap64 ((rd (rd_L6 l0 a1) (ji21)) + 2))) (wrap64 ((rd (rd_L6 l0 (ji14)) (ji21)) + bt107.1)))) else (none)) else (some (mn (wrap64 ((rd (rd_L6 l0 (ji14)) a2) + 1)) (wrap64 ((rd (rd_L6 l0 a1) (ji21)) + 2)))))) else (none)) else (none)) else (none)) else (none)) = some r := by first | (rw [hji21] at H;exact H) | (simp only [hji21] at H ⊢;exact H)
         have hji21w : (IntKind.i64.wrap (a2 + 1)) = ji21 := (i64_w _).trans hji21
         by_cases c22 : 0 ≤ (ji21)
         ·rw [if_pos c22] at H;have c22b0 : decide (0 ≤ (ji21)) = true := decide_eq_true c22;clear c22
          by_cases c23 : (ji21) < ((rd_L6 l0 a1).length : Int)
          ·rw [if_pos c23] at H;have c23b0 : decide ((ji21) < ((rd_L6 l0 a1).length : Int)) = true := decide_eq_true c23;clear c23;obtain ⟨ji24,hji24⟩ : ∃ j_ : Int,(mn (wrap64 ((rd (rd_L6 l0 (ji14)) a2) + 1)) (wrap64 ((rd (rd_L6 l0 a1) (ji21)) + 2))) = j_ := ⟨_,rfl⟩
           replace H : (if a1 < (l3.length : Int) then (if a2 < (l4.length : Int) then ((impl_stepFaults.f ((rd_T73 l3 a1).f0) ((rd_T73 l3 a1).f1) ((rd_T73 l3 a1).f2) ((rd_T73 l4 a2).f0) ((rd_T73 l4 a2).f1) ((rd_T73 l4 a2).f2)).bind fun bt107 => (if bt107.2 = true then (if (ji21) < ((rd_L6 l0 (ji14)).length : Int) then (some (mn (ji24) (wrap64 ((rd (rd_L6 l0 (ji14)) (ji21)) + bt107.1)))) else (none)) else (some ji24))) else (none)) else (none)) = some r := by first | (rw [hji24] at H;exact H) | (simp only [hji24] at H ⊢;exact H)
           have hji24_ : (if (wrap64 ((rd (rd_L6 l0 a1) (ji21)) + 2)) < (wrap64 ((rd (rd_L6 l0 (ji14)) a2) + 1)) then (wrap64 ((rd (rd_L6 l0 a1) (ji21)) + 2)) else (wrap64 ((rd (rd_L6 l0 (ji14)) a2) + 1))) = ji24 := hji24
           by_cases c25 : a1 < (l3.length : Int)
           ·rw [if_pos c25] at H;have c25b0 : decide (a1 < (l3.length : Int)) = true := decide_eq_true c25;clear c25
            by_cases c26 : a2 < (l4.length : Int)
            ·rw [if_pos c26] at H;have c26b0 : decide (a2 < (l4.length : Int)) = true := decide_eq_true c26;clear c26;replace H := Option.bind_eq_some_iff.mp H;obtain ⟨⟨t107,t108⟩,A270,H⟩ := H;replace H : (if t108 = true then (if (ji21) < ((rd_L6 l0 (ji14)).length : Int) then (some (mn (ji24) (wrap64 ((rd (rd_L6 l0 (ji14)) (ji21)) + t107)))) else (none)) else (some ji24)) = some r := H;have A27 := Aside0.mk A270;clear A270
             by_cases c28 : t108 = true
             ·subst c28
              have H1 : (if (ji21) < ((rd_L6 l0 (ji14)).length : Int) then (some (mn (ji24) (wrap64 ((rd (rd_L6 l0 (ji14)) (ji21)) + t107)))) else (none)) = some r := by rw [if_pos rfl] at H;exact H
              clear H;have H := H1;clear H1
              by_cases c29 : (ji21) < ((rd_L6 l0 (ji14)).length : Int)
              ·rw [if_pos c29] at H;have c29b0 : decide ((ji21) < ((rd_L6 l0 (ji14)).length : Int)) = true := decide_eq_true c29;clear c29;obtain ⟨ji30,hji30⟩ : ∃ j_ : Int,(mn (ji24) (wrap64 ((rd (rd_L6 l0 (ji14)) (ji21)) + t107))) = j_ := ⟨_,rfl⟩
               replace H : (some ji30) = some r := by first | (rw [hji30] at H;exact H) | (simp only [hji30] at H ⊢;exact H)
               (try rw [hji30] at A27);have hji30_ : (if (wrap64 ((rd (rd_L6 l0 (ji14)) (ji21)) + t107)) < (ji24) then (wrap64 ((rd (rd_L6 l0 (ji14)) (ji21)) + t107)) else (ji24)) = ji30 := hji30;obtain rfl := Option.some.inj H;have hnb31 := NB3_4.out;have hnc31 := NB4_3.out;have hcz32_0 : w.cell? ⟨b3,0,none⟩ = some (.slice A3 l3.length c3) := (blk_cell BK3.out 0).trans rfl;have hfz32_0 := blk_frozen BK3.out 0;have hcz33_0 : w.cell? ⟨b4,0,none⟩ = some (.slice A4 l4.length c4) := (blk_cell BK4.out 0).trans rfl;have hfz33_0 := blk_frozen BK4.out 0
               go_enter Try.func120,Try.ntmps120
               (try go_wp2);have n0_ := Aside0.mk (blk_drew BK3.out);have n1_ := Aside0.mk (blk_drew BK4.out);have n2_ := Aside0.mk (below_drew1 HB.out);clear BK3;clear BK4;clear HB;have BK3 := n0_;have BK4 := n1_;have HB := n2_;clear n0_ n1_ n2_;have p101 : 0 ≤ ((ji14) : Int) := of_decide_eq_true (by first | (with_reducible assumption) | assumption);have q101 : (ji14) < (l0.length : Int) := of_decide_eq_true (by first | (with_reducible assumption) | assumption);obtain ⟨ad101,A101_0,c101_0,e101,hx101_0,hl101_0,hi101_0⟩ := at_L6 HR0.out (ji14) p101 q101;have hw101_0 := hx101_0;cases e101;replace hx101_0 := (HB.out.cell (World.block_lt_of_cell? w _ hx101_0)).trans hx101_0;have HR101_0 := Aside0.mk hi101_0;have HC101_0 := Aside0.mk hl101_0;clear hi101_0 hl101_0;replace p101 := eq_true p101;replace q101 := eq_true q101;have p102 : 0 ≤ (a2 : Int) := of_decide_eq_true (by first | (with_reducible assumption) | assumption);have q102 : a2 < ((rd_L6 l0 (ji14)).length : Int) := of_decide_eq_true (by first | (with_reducible assumption) | assumption);obtain ⟨ad102,e102,hx102_0⟩ := Kd.at_int HR101_0.out a2 p102 q102;have hw102_0 := hx102_0;cases e102;replace hx102_0 := (HB.out.cell (World.block_lt_of_cell? w _ hx102_0)).trans hx102_0;replace p102 := eq_true p102;replace q102 := eq_true q102;have p103 : 0 ≤ (a1 : Int) := of_decide_eq_true (by first | (with_reducible assumption) | assumption);have q103 : a1 < (l0.length : Int) := of_decide_eq_true (by first | (with_reducible assumption) | assumption);obtain ⟨ad103,A103_0,c103_0,e103,hx103_0,hl103_0,hi103_0⟩ := at_L6 HR0.out a1 p103 q103;have hw103_0 := hx103_0;obtain rfl : ad101 = ad103 := (by injection e103);replace hx103_0 := (HB.out.cell (World.block_lt_of_cell? w _ hx103_0)).trans hx103_0;have HR103_0 := Aside0.mk hi103_0;have HC103_0 := Aside0.mk hl103_0;clear hi103_0 hl103_0;replace p103 := eq_true p103;replace q103 := eq_true q103;have p104 : 0 ≤ ((ji21) : Int) := of_decide_eq_true (by first | (with_reducible assumption) | assumption);have q104 : (ji21) < ((rd_L6 l0 a1).length : Int) := of_decide_eq_true (by first | (with_reducible assumption) | assumption);obtain ⟨ad104,e104,hx104_0⟩ := Kd.at_int HR103_0.out (ji21) p104 q104;have hw104_0 := hx104_0;cases e104;replace hx104_0 := (HB.out.cell (World.block_lt_of_cell? w _ hx104_0)).trans hx104_0;replace p104 := eq_true p104;replace q104 := eq_true q104;refine start_ (n := 20) (S := fun w' => w'.cell? (ad101.add ((ji14)).toNat) = some (.slice (some ad102) (rd_L6 l0 (ji14)).length c101_0) ∧ w'.cell? (ad102.add (a2).toNat) = some (.int .i64 (rd (rd_L6 l0 (ji14)) a2)) ∧ w'.cell? (ad101.add (a1).toNat) = some (.slice (some ad104) (rd_L6 l0 a1).length c103_0) ∧ w'.cell? (ad104.add ((ji21)).toNat) = some (.int .i64 (rd (rd_L6 l0 a1) (ji21)))) (ds := []) #[false,false,false,false,false,false,false,false,false,false,false,false,false,false,false,false,false,false,false,false] (by kernel_rfl) rfl rfl ⟨((HB.out.cell (World.block_lt_of_cell? w _ hw101_0)).trans hw101_0),((HB.out.cell (World.block_lt_of_cell? w _ hw102_0)).trans hw102_0),((HB.out.cell (World.block_lt_of_cell? w _ hw103_0)).trans hw103_0),((HB.out.cell (World.block_lt_of_cell? w _ hw104_0)).trans hw104_0)⟩ (fun hHeld => ?_);refine with_tabW impl_faults_1.tab5 impl_faults_1.bits5 (fun HT_ HW_ => ?_);generalize w.drew = w34 at BK3 BK4 HB HR101_0 HR103_0 hx101_0 hx102_0 hx103_0 hx104_0 hHeld ⊢;refine pure_ (i := 0) (N := some 32) (v := ?_) (a' := ?_) #[true,false,false,false,false,false,false,false,false,false,false,false,false,false,false,false,false,false,false,false] rfl rfl (any_of HT_.out (by kernel_rfl)) (fun _ _ _ h => h) (Or.inl ⟨by rfl,?_⟩) ?_ ?_;rotate_left
               ·intro w';go_simp;with_reducible rfl
               rotate_left
               ·simp only [Act.put,List.setIfInBounds_toArray,List.set_cons_zero,List.set_cons_succ,i64_w,i32_w];rfl
               refine pure_ (i := 1) (N := some 33) (v := ?_) (a' := ?_) #[true,true,false,false,false,false,false,false,false,false,false,false,false,false,false,false,false,false,false,false] rfl rfl (any_of HT_.out (by kernel_rfl)) (fun _ _ _ h => h) (Or.inl ⟨by rfl,?_⟩) ?_ ?_;rotate_left
               ·intro w';go_simp;with_reducible rfl
               rotate_left
               ·simp only [Act.put,List.setIfInBounds_toArray,List.set_cons_zero,List.set_cons_succ,i64_w,i32_w];rfl
               refine pure_ (i := 2) (N := some 34) (v := ?_) (a' := ?_) #[true,true,true,false,false,false,false,false,false,false,false,false,false,false,false,false,false,false,false,false] rfl rfl (any_of HT_.out (by kernel_rfl)) (fun _ _ _ h => h) (Or.inl ⟨by rfl,?_⟩) ?_ ?_;rotate_left
               ·intro w';go_simp;with_reducible rfl
               rotate_left
               ·simp only [Act.put,List.setIfInBounds_toArray,List.set_cons_zero,List.set_cons_succ,i64_w,i32_w];rfl
               refine pure_ (i := 3) (N := some 35) (v := ?_) (a' := ?_) #[true,true,true,true,false,false,false,false,false,false,false,false,false,false,false,false,false,false,false,false] rfl rfl (any_of HT_.out (by kernel_rfl)) (fun _ _ _ h => h) (Or.inl ⟨by rfl,?_⟩) ?_ ?_;rotate_left
               ·intro w';go_simp;with_reducible rfl
               rotate_left
               ·simp only [Act.put,List.setIfInBounds_toArray,List.set_cons_zero,List.set_cons_succ,i64_w,i32_w];rfl
               refine pure_ (i := 5) (N := some 37) (v := ?_) (a' := ?_) #[true,true,true,true,false,true,false,false,false,false,false,false,false,false,false,false,false,false,false,false] rfl rfl (any_of HT_.out (by kernel_rfl)) (fun _ _ _ h => h) (Or.inl ⟨by rfl,?_⟩) ?_ ?_;rotate_left
               ·intro w';go_simp;with_reducible rfl
               rotate_left
               ·simp only [Act.put,List.setIfInBounds_toArray,List.set_cons_zero,List.set_cons_succ,i64_w,i32_w];rfl
               refine pure_ (i := 9) (N := some 41) (v := ?_) (a' := ?_) #[true,true,true,true,false,true,false,false,false,true,false,false,false,false,false,false,false,false,false,false] rfl rfl (any_of HT_.out (by kernel_rfl)) (fun _ _ _ h => h) (Or.inl ⟨by rfl,?_⟩) ?_ ?_;rotate_left
               ·intro w';go_simp;with_reducible rfl
               rotate_left
               ·simp only [Act.put,List.setIfInBounds_toArray,List.set_cons_zero,List.set_cons_succ,i64_w,i32_w];rfl
               refine pure_ (i := 10) (N := some 42) (v := ?_) (a' := ?_) #[true,true,true,true,false,true,false,false,false,true,true,false,false,false,false,false,false,false,false,false] rfl rfl (any_of HT_.out (by kernel_rfl)) (fun _ _ _ h => h) (Or.inl ⟨by rfl,?_⟩) ?_ ?_;rotate_left
               ·intro w';go_simp;with_reducible rfl
               rotate_left
               ·simp only [Act.put,List.setIfInBounds_toArray,List.set_cons_zero,List.set_cons_succ,i64_w,i32_w];rfl
               refine pure_ (i := 11) (N := some 43) (v := ?_) (a' := ?_) #[true,true,true,true,false,true,false,false,false,true,true,true,false,false,false,false,false,false,false,false] rfl rfl (any_of HT_.out (by kernel_rfl)) (fun _ _ _ h => h) (Or.inl ⟨by rfl,?_⟩) ?_ ?_;rotate_left
               ·intro w';go_simp;with_reducible rfl
               rotate_left
               ·simp only [Act.put,List.setIfInBounds_toArray,List.set_cons_zero,List.set_cons_succ,i64_w,i32_w];rfl
               refine pure_ (i := 13) (N := some 45) (v := ?_) (a' := ?_) #[true,true,true,true,false,true,false,false,false,true,true,true,false,true,false,false,false,false,false,false] rfl rfl (any_of HT_.out (by kernel_rfl)) (fun _ _ _ h => h) (Or.inl ⟨by rfl,?_⟩) ?_ ?_;rotate_left
               ·intro w';go_simp;with_reducible rfl
               rotate_left
               ·simp only [Act.put,List.setIfInBounds_toArray,List.set_cons_zero,List.set_cons_succ,i64_w,i32_w];rfl
               refine pure_ (i := 14) (N := some 46) (v := ?_) (a' := ?_) #[true,true,true,true,false,true,false,false,false,true,true,true,false,true,true,false,false,false,false,false] rfl rfl (any_of HT_.out (by kernel_rfl)) (fun _ _ _ h => h) (Or.inl ⟨by rfl,?_⟩) ?_ ?_;rotate_left
               ·intro w';go_simp;with_reducible rfl
               rotate_left
               ·simp only [Act.put,List.setIfInBounds_toArray,List.set_cons_zero,List.set_cons_succ,i64_w,i32_w];rfl
               refine take_ (i := 4) (N := some 36) (v := ?_) (a' := ?_) #[true,true,true,true,true,true,false,false,false,true,true,true,false,true,true,false,false,false,false,false] rfl rfl (take_ofW HT_.out HW_.out (by kernel_rfl)) (fun _ _ _ h => h) (Or.inl ⟨by rfl,?_⟩) hHeld ?_ ?_;rotate_left
               ·rintro w' ⟨s0,s1,s2,s3⟩
                go_simp;with_reducible rfl
               rotate_left
               ·simp only [Act.put,List.setIfInBounds_toArray,List.set_cons_zero,List.set_cons_succ,i64_w,i32_w];rfl
               refine pure_ (i := 6) (N := some 38) (v := ?_) (a' := ?_) #[true,true,true,true,true,true,true,false,false,true,true,true,false,true,true,false,false,false,false,false] rfl rfl (any_of HT_.out (by kernel_rfl)) (fun _ _ _ h => h) (Or.inl ⟨by rfl,?_⟩) ?_ ?_;rotate_left
               ·intro w';go_simp;with_reducible rfl
               rotate_left
               ·simp only [Act.put,List.setIfInBounds_toArray,List.set_cons_zero,List.set_cons_succ,i64_w,i32_w];rfl
               refine take_ (i := 7) (N := some 39) (v := ?_) (a' := ?_) #[true,true,true,true,true,true,true,true,false,true,true,true,false,true,true,false,false,false,false,false] rfl rfl (take_ofW HT_.out HW_.out (by kernel_rfl)) (fun _ _ _ h => h) (Or.inl ⟨by rfl,?_⟩) hHeld ?_ ?_;rotate_left
               ·rintro w' ⟨s0,s1,s2,s3⟩
                go_simp;with_reducible rfl
               rotate_left
               ·simp only [Act.put,List.setIfInBounds_toArray,List.set_cons_zero,List.set_cons_succ,i64_w,i32_w];rfl
               refine pure_ (i := 8) (N := some 40) (v := ?_) (a' := ?_) #[true,true,true,true,true,true,true,true,true,true,true,true,false,true,true,false,false,false,false,false] rfl rfl (any_of HT_.out (by kernel_rfl)) (fun _ _ _ h => h) (Or.inl ⟨by rfl,?_⟩) ?_ ?_;rotate_left
               ·intro w';go_simp;with_reducible rfl
               rotate_left
               ·simp only [Act.put,List.setIfInBounds_toArray,List.set_cons_zero,List.set_cons_succ,i64_w,i32_w];rfl
               refine take_ (i := 12) (N := some 44) (v := ?_) (a' := ?_) #[true,true,true,true,true,true,true,true,true,true,true,true,true,true,true,false,false,false,false,false] rfl rfl (take_ofW HT_.out HW_.out (by kernel_rfl)) (fun _ _ _ h => h) (Or.inl ⟨by rfl,?_⟩) hHeld ?_ ?_;rotate_left
               ·rintro w' ⟨s0,s1,s2,s3⟩
                go_simp;with_reducible rfl
               rotate_left
               ·simp only [Act.put,List.setIfInBounds_toArray,List.set_cons_zero,List.set_cons_succ,i64_w,i32_w];rfl
               refine pure_ (i := 15) (N := some 47) (v := ?_) (a' := ?_) #[true,true,true,true,true,true,true,true,true,true,true,true,true,true,true,true,false,false,false,false] rfl rfl (any_of HT_.out (by kernel_rfl)) (fun _ _ _ h => h) (Or.inl ⟨by rfl,?_⟩) ?_ ?_;rotate_left
               ·intro w';go_simp;with_reducible rfl
               rotate_left
               ·simp only [Act.put,List.setIfInBounds_toArray,List.set_cons_zero,List.set_cons_succ,i64_w,i32_w];rfl
               refine take_ (i := 16) (N := some 48) (v := ?_) (a' := ?_) #[true,true,true,true,true,true,true,true,true,true,true,true,true,true,true,true,true,false,false,false] rfl rfl (take_ofW HT_.out HW_.out (by kernel_rfl)) (fun _ _ _ h => h) (Or.inl ⟨by rfl,?_⟩) hHeld ?_ ?_;rotate_left
               ·rintro w' ⟨s0,s1,s2,s3⟩
                go_simp;with_reducible rfl
               rotate_left
               ·simp only [Act.put,List.setIfInBounds_toArray,List.set_cons_zero,List.set_cons_succ,i64_w,i32_w];rfl
               refine pure_ (i := 17) (N := some 49) (v := ?_) (a' := ?_) #[true,true,true,true,true,true,true,true,true,true,true,true,true,true,true,true,true,true,false,false] rfl rfl (any_of HT_.out (by kernel_rfl)) (fun _ _ _ h => h) (Or.inl ⟨by rfl,?_⟩) ?_ ?_;rotate_left
               ·intro w';go_simp;with_reducible rfl
               rotate_left
               ·simp only [Act.put,List.setIfInBounds_toArray,List.set_cons_zero,List.set_cons_succ,i64_w,i32_w];rfl
               refine pure_ (i := 18) (N := some 50) (v := ?_) (a' := ?_) #[true,true,true,true,true,true,true,true,true,true,true,true,true,true,true,true,true,true,true,false] rfl rfl (any_of HT_.out (by kernel_rfl)) (fun _ _ _ h => h) (Or.inl ⟨by rfl,?_⟩) ?_ ?_;rotate_left
               ·intro w';go_simp;with_reducible rfl
               rotate_left
               ·simp only [Act.put,List.setIfInBounds_toArray,List.set_cons_zero,List.set_cons_succ,i64_w,i32_w];rfl
               refine pure_ (i := 19) (N := some 9) (v := ?_) (a' := ?_) #[true,true,true,true,true,true,true,true,true,true,true,true,true,true,true,true,true,true,true,true] rfl rfl (any_of HT_.out (by kernel_rfl)) (fun _ _ _ h => h) (Or.inl ⟨by rfl,?_⟩) ?_ ?_;rotate_left
               ·intro w';go_simp;with_reducible rfl
               rotate_left
               ·simp only [Act.put,List.setIfInBounds_toArray,List.set_cons_zero,List.set_cons_succ,i64_w,i32_w];rfl
               refine done_ (done_of HT_.out (by kernel_rfl)) ?_;(try go_wp2);have n0_ := Aside0.mk (blk_drew BK3.out);have n1_ := Aside0.mk (blk_drew BK4.out);have n2_ := Aside0.mk (below_drew1 HB.out);clear BK3;clear BK4;clear HB;have BK3 := n0_;have BK4 := n1_;have HB := n2_;clear n0_ n1_ n2_;have p105 : 0 ≤ (a1 : Int) := of_decide_eq_true (by first | (with_reducible assumption) | assumption);have q105 : a1 < (l3.length : Int) := of_decide_eq_true (by first | (with_reducible assumption) | assumption);obtain ⟨ad105,e105,hx105_0,hx105_1,hx105_2⟩ := at_T73 HR3.out a1 p105 q105;have hw105_2 := hx105_2;have hw105_1 := hx105_1;have hw105_0 := hx105_0;cases e105;replace hx105_0 := (HB.out.cell (World.block_lt_of_cell? w _ hx105_0)).trans hx105_0;replace hx105_1 := (HB.out.cell (World.block_lt_of_cell? w _ hx105_1)).trans hx105_1;replace hx105_2 := (HB.out.cell (World.block_lt_of_cell? w _ hx105_2)).trans hx105_2;replace p105 := eq_true p105;replace q105 := eq_true q105;have p106 : 0 ≤ (a2 : Int) := of_decide_eq_true (by first | (with_reducible assumption) | assumption);have q106 : a2 < (l4.length : Int) := of_decide_eq_true (by first | (with_reducible assumption) | assumption);obtain ⟨ad106,e106,hx106_0,hx106_1,hx106_2⟩ := at_T73 HR4.out a2 p106 q106;have hw106_2 := hx106_2;have hw106_1 := hx106_1;have hw106_0 := hx106_0;cases e106;replace hx106_0 := (HB.out.cell (World.block_lt_of_cell? w _ hx106_0)).trans hx106_0;replace hx106_1 := (HB.out.cell (World.block_lt_of_cell? w _ hx106_1)).trans hx106_1;replace hx106_2 := (HB.out.cell (World.block_lt_of_cell? w _ hx106_2)).trans hx106_2;replace p106 := eq_true p106;replace q106 := eq_true q106;refine start_ (n := 14) (S := fun w' => w'.cell? ⟨b3,0,none⟩ = some (.slice (some ad105) l3.length c3) ∧ w'.cell? ⟨b4,0,none⟩ = some (.slice (some ad106) l4.length c4) ∧ w'.cell? (ad105.add ((a1).toNat * 3)) = some (.int .i64 ((rd_T73 l3 a1).f0)) ∧ w'.cell? ⟨(ad105.add ((a1).toNat * 3)).block,(ad105.add ((a1).toNat * 3)).off + 1,none⟩ = some (.int .i64 ((rd_T73 l3 a1).f1)) ∧ w'.cell? ⟨(ad105.add ((a1).toNat * 3)).block,(ad105.add ((a1).toNat * 3)).off + 2,none⟩ = some (.bool ((rd_T73 l3 a1).f2)) ∧ w'.cell? (ad106.add ((a2).toNat * 3)) = some (.int .i64 ((rd_T73 l4 a2).f0)) ∧ w'.cell? ⟨(ad106.add ((a2).toNat * 3)).block,(ad106.add ((a2).toNat * 3)).off + 1,none⟩ = some (.int .i64 ((rd_T73 l4 a2).f1)) ∧ w'.cell? ⟨(ad106.add ((a2).toNat * 3)).block,(ad106.add ((a2).toNat * 3)).off + 2,none⟩ = some (.bool ((rd_T73 l4 a2).f2))) (ds := []) #[false,false,false,false,false,false,false,false,false,false,false,false,false,false] (by kernel_rfl) rfl rfl ⟨(blk_cell BK3.out 0).trans rfl,(blk_cell BK4.out 0).trans rfl,((HB.out.cell (World.block_lt_of_cell? w _ hw105_0)).trans hw105_0),((HB.out.cell (World.block_lt_of_cell? w _ hw105_1)).trans hw105_1),((HB.out.cell (World.block_lt_of_cell? w _ hw105_2)).trans hw105_2),((HB.out.cell (World.block_lt_of_cell? w _ hw106_0)).trans hw106_0),((HB.out.cell (World.block_lt_of_cell? w _ hw106_1)).trans hw106_1),((HB.out.cell (World.block_lt_of_cell? w _ hw106_2)).trans hw106_2)⟩ (fun hHeld => ?_);refine with_tabW impl_faults_1.tab6 impl_faults_1.bits6 (fun HT_ HW_ => ?_);generalize w34.drew = w35 at BK3 BK4 HB hx105_0 hx105_1 hx105_2 hx106_0 hx106_1 hx106_2 hHeld ⊢;refine pure_ (i := 1) (N := some 53) (v := ?_) (a' := ?_) #[false,true,false,false,false,false,false,false,false,false,false,false,false,false] rfl rfl (any_of HT_.out (by kernel_rfl)) (fun _ _ _ h => h) (Or.inl ⟨by rfl,?_⟩) ?_ ?_;rotate_left
               ·intro w';go_simp;with_reducible rfl
               rotate_left
               ·simp only [Act.put,List.setIfInBounds_toArray,List.set_cons_zero,List.set_cons_succ,i64_w,i32_w];rfl
               refine pure_ (i := 5) (N := some 57) (v := ?_) (a' := ?_) #[false,true,false,false,false,true,false,false,false,false,false,false,false,false] rfl rfl (any_of HT_.out (by kernel_rfl)) (fun _ _ _ h => h) (Or.inl ⟨by rfl,?_⟩) ?_ ?_;rotate_left
               ·intro w';go_simp;with_reducible rfl
               rotate_left
               ·simp only [Act.put,List.setIfInBounds_toArray,List.set_cons_zero,List.set_cons_succ,i64_w,i32_w];rfl
               refine take_ (i := 0) (N := some 52) (v := ?_) (a' := ?_) #[true,true,false,false,false,true,false,false,false,false,false,false,false,false] rfl rfl (take_ofW HT_.out HW_.out (by kernel_rfl)) (fun _ _ _ h => h) (Or.inl ⟨by rfl,?_⟩) hHeld ?_ ?_;rotate_left
               ·rintro w' ⟨s0,s1,s2,s3,s4,s5,s6,s7⟩
                go_simp;with_reducible rfl
               rotate_left
               ·simp only [Act.put,List.setIfInBounds_toArray,List.set_cons_zero,List.set_cons_succ,i64_w,i32_w];rfl
               refine pure_ (i := 2) (N := some 54) (v := ?_) (a' := ?_) #[true,true,true,false,false,true,false,false,false,false,false,false,false,false] rfl rfl (any_of HT_.out (by kernel_rfl)) (fun _ _ _ h => h) (Or.inl ⟨by rfl,?_⟩) ?_ ?_;rotate_left
               ·intro w';go_simp;with_reducible rfl
               rotate_left
               ·simp only [Act.put,List.setIfInBounds_toArray,List.set_cons_zero,List.set_cons_succ,i64_w,i32_w];rfl
               refine take_ (i := 3) (N := some 55) (v := ?_) (a' := ?_) #[true,true,true,true,false,true,false,false,false,false,false,false,false,false] rfl rfl (take_ofW HT_.out HW_.out (by kernel_rfl)) (fun _ _ _ h => h) (Or.inl ⟨by rfl,?_⟩) hHeld ?_ ?_;rotate_left
               ·rintro w' ⟨s0,s1,s2,s3,s4,s5,s6,s7⟩
                go_simp;with_reducible rfl
               rotate_left
               ·simp only [Act.put,List.setIfInBounds_toArray,List.set_cons_zero,List.set_cons_succ,i64_w,i32_w];rfl
               refine take_ (i := 4) (N := some 56) (v := ?_) (a' := ?_) #[true,true,true,true,true,true,false,false,false,false,false,false,false,false] rfl rfl (take_ofW HT_.out HW_.out (by kernel_rfl)) (fun _ _ _ h => h) (Or.inl ⟨by rfl,?_⟩) hHeld ?_ ?_;rotate_left
               ·rintro w' ⟨s0,s1,s2,s3,s4,s5,s6,s7⟩
                go_simp;with_reducible rfl
               rotate_left
               ·simp only [Act.put,List.setIfInBounds_toArray,List.set_cons_zero,List.set_cons_succ,i64_w,i32_w];rfl
               refine pure_ (i := 6) (N := some 58) (v := ?_) (a' := ?_) #[true,true,true,true,true,true,true,false,false,false,false,false,false,false] rfl rfl (any_of HT_.out (by kernel_rfl)) (fun _ _ _ h => h) (Or.inl ⟨by rfl,?_⟩) ?_ ?_;rotate_left
               ·intro w';go_simp;with_reducible rfl
               rotate_left
               ·simp only [Act.put,List.setIfInBounds_toArray,List.set_cons_zero,List.set_cons_succ,i64_w,i32_w];rfl
               refine take_ (i := 7) (N := some 59) (v := ?_) (a' := ?_) #[true,true,true,true,true,true,true,true,false,false,false,false,false,false] rfl rfl (take_ofW HT_.out HW_.out (by kernel_rfl)) (fun _ _ _ h => h) (Or.inl ⟨by rfl,?_⟩) hHeld ?_ ?_;rotate_left
               ·rintro w' ⟨s0,s1,s2,s3,s4,s5,s6,s7⟩
                go_simp;with_reducible rfl
               rotate_left
               ·simp only [Act.put,List.setIfInBounds_toArray,List.set_cons_zero,List.set_cons_succ,i64_w,i32_w];rfl
               refine one_ (i := 8) (N := some 60) #[true,true,true,true,true,true,true,true,true,false,false,false,false,false] rfl rfl (one_of HT_.out (by kernel_rfl)) (by decide) (fun K hK => ?_);refine goes_ Try.func98 (by kernel_rfl) rfl #[.agg #[.int .i64 ((rd_T73 l3 a1).f0),.int .i64 ((rd_T73 l3 a1).f1),.bool ((rd_T73 l3 a1).f2)],.agg #[.int .i64 ((rd_T73 l4 a2).f0),.int .i64 ((rd_T73 l4 a2).f1),.bool ((rd_T73 l4 a2).f2)]] (by rfl) rfl rfl (by (try simp only [List.map_toArray,List.map_cons,List.map_nil]);first | done | rfl | (simp only [List.length_drop,List.length_take];rfl)) ?_
               with_reducible refine (impl_stepFaults.calls ((rd_T73 l3 a1).f0) ((rd_T73 l3 a1).f1) ((rd_T73 l3 a1).f2) ((rd_T73 l4 a2).f0) ((rd_T73 l4 a2).f1) ((rd_T73 l4 a2).f2) t107 true _ A27.out).mono ?_
               rintro e w36 ⟨rfl,hb⟩
               refine ⟨_,rfl,?_⟩;have n0_ := Aside0.mk (blk_below (g := b3) (o := .cells #[.slice (some ad105) l3.length c3] 26 (0,0)) (by (with_reducible repeat (first | refine blk_drewN ?_ _ | refine blk_drew ?_ | refine blk_alloc ?_ _));exact BK3.out) hb);have n1_ := Aside0.mk (blk_below (g := b4) (o := .cells #[.slice (some ad106) l4.length c4] 26 (0,0)) (by (with_reducible repeat (first | refine blk_drewN ?_ _ | refine blk_drew ?_ | refine blk_alloc ?_ _));exact BK4.out) hb);have n2_ := Aside0.mk (below_step (by repeat (first | (with_reducible first | exact HB.out | apply below_alloc | apply pw_below_drewN | apply below_drew1 | refine below_set ?_ GE3.out | refine below_set ?_ GE4.out) | exact HB.out)) hb);clear BK3;clear BK4;clear HB;have BK3 := n0_;have BK4 := n1_;have HB := n2_;clear n0_ n1_ n2_;(try clear hb);(try clear hb2);(try clear hk);(try clear hi);refine hK.out _ _ ⟨(blk_cell BK3.out 0).trans rfl,(blk_cell BK4.out 0).trans rfl,((HB.out.cell (World.block_lt_of_cell? w _ hw105_0)).trans hw105_0),((HB.out.cell (World.block_lt_of_cell? w _ hw105_1)).trans hw105_1),((HB.out.cell (World.block_lt_of_cell? w _ hw105_2)).trans hw105_2),((HB.out.cell (World.block_lt_of_cell? w _ hw106_0)).trans hw106_0),((HB.out.cell (World.block_lt_of_cell? w _ hw106_1)).trans hw106_1),((HB.out.cell (World.block_lt_of_cell? w _ hw106_2)).trans hw106_2)⟩ (fun hHeld => ?_);clear hK K;refine norm_ (a' := ?_) ?_ ?_;rotate_left
               ·show Act.put _ (some 60) _ = _
                simp only [Act.put,List.setIfInBounds_toArray,List.set_cons_zero,List.set_cons_succ,i64_w,i32_w];rfl
               refine pure_ (i := 9) (N := some 51) (v := ?_) (a' := ?_) #[true,true,true,true,true,true,true,true,true,true,false,false,false,false] rfl rfl (any_of HT_.out (by kernel_rfl)) (fun _ _ _ h => h) (Or.inl ⟨by rfl,?_⟩) ?_ ?_;rotate_left
               ·intro w';go_simp;with_reducible rfl
               rotate_left
               ·simp only [Act.put,List.setIfInBounds_toArray,List.set_cons_zero,List.set_cons_succ,i64_w,i32_w];rfl
               refine pure_ (i := 10) (N := some 61) (v := ?_) (a' := ?_) #[true,true,true,true,true,true,true,true,true,true,true,false,false,false] rfl rfl (any_of HT_.out (by kernel_rfl)) (fun _ _ _ h => h) (Or.inl ⟨by rfl,?_⟩) ?_ ?_;rotate_left
               ·intro w';go_simp;with_reducible rfl
               rotate_left
               ·simp only [Act.put,List.setIfInBounds_toArray,List.set_cons_zero,List.set_cons_succ,i64_w,i32_w];rfl
               refine pure_ (i := 11) (N := some 62) (v := ?_) (a' := ?_) #[true,true,true,true,true,true,true,true,true,true,true,true,false,false] rfl rfl (any_of HT_.out (by kernel_rfl)) (fun _ _ _ h => h) (Or.inl ⟨by rfl,?_⟩) ?_ ?_;rotate_left
               ·intro w';go_simp;with_reducible rfl
               rotate_left
               ·simp only [Act.put,List.setIfInBounds_toArray,List.set_cons_zero,List.set_cons_succ,i64_w,i32_w];rfl
               refine pure_ (i := 12) (N := some 10) (v := ?_) (a' := ?_) #[true,true,true,true,true,true,true,true,true,true,true,true,true,false] rfl rfl (any_of HT_.out (by kernel_rfl)) (fun _ _ _ h => h) (Or.inl ⟨by rfl,?_⟩) ?_ ?_;rotate_left
               ·intro w';go_simp;with_reducible rfl
               rotate_left
               ·simp only [Act.put,List.setIfInBounds_toArray,List.set_cons_zero,List.set_cons_succ,i64_w,i32_w];rfl
               refine pure_ (i := 13) (N := some 11) (v := ?_) (a' := ?_) #[true,true,true,true,true,true,true,true,true,true,true,true,true,true] rfl rfl (any_of HT_.out (by kernel_rfl)) (fun _ _ _ h => h) (Or.inl ⟨by rfl,?_⟩) ?_ ?_;rotate_left
               ·intro w';go_simp;with_reducible rfl
               rotate_left
               ·simp only [Act.put,List.setIfInBounds_toArray,List.set_cons_zero,List.set_cons_succ,i64_w,i32_w];rfl
               refine done_ (done_of HT_.out (by kernel_rfl)) ?_;have p109 : 0 ≤ ((ji14) : Int) := of_decide_eq_true (by first | (with_reducible assumption) | assumption);have q109 : (ji14) < (l0.length : Int) := of_decide_eq_true (by first | (with_reducible assumption) | assumption);obtain ⟨ad109,A109_0,c109_0,e109,hx109_0,hl109_0,hi109_0⟩ := at_L6 HR0.out (ji14) p109 q109;obtain rfl : ad101 = ad109 := (by injection e109);replace hx109_0 := (HB.out.cell (World.block_lt_of_cell? w _ hx109_0)).trans hx109_0;have HR109_0 := Aside0.mk hi109_0;have HC109_0 := Aside0.mk hl109_0;clear hi109_0 hl109_0;replace p109 := eq_true p109;replace q109 := eq_true q109;have p110 : 0 ≤ ((ji21) : Int) := of_decide_eq_true (by first | (with_reducible assumption) | assumption);have q110 : (ji21) < ((rd_L6 l0 (ji14)).length : Int) := of_decide_eq_true (by first | (with_reducible assumption) | assumption);obtain ⟨ad110,e110,hx110_0⟩ := Kd.at_int HR109_0.out (ji21) p110 q110;cases e110;replace hx110_0 := (HB.out.cell (World.block_lt_of_cell? w _ hx110_0)).trans hx110_0;replace p110 := eq_true p110;replace q110 := eq_true q110;(try go_wp2)
               go_ret
               exact ⟨by first | rfl | (simp [errW_none,errW_some,IntKind.wrap_i64,wrap64];done) | (simp [errW_none,errW_some] <;> rfl) | (simp only [← hji14,← hji21,← hji24,← hji30];first | rfl | (simp [errW_none,errW_some] <;> rfl)) | (simp [*,errW_none,errW_some] <;> rfl),by repeat (first | (with_reducible first | exact HB.out | apply below_alloc | apply pw_below_drewN | apply below_drew1 | refine below_set ?_ GE3.out | refine below_set ?_ GE4.out) | exact HB.out)⟩
              ·rw [if_neg c29] at H;exact absurd H (by simp)
             ·replace c28 := Bool.eq_false_iff.mpr c28;subst c28
              have H1 : (some ji24) = some r := by rw [if_neg (show ¬ (false = true) by decide)] at H;exact H
              clear H;have H := H1;clear H1;obtain rfl := Option.some.inj H;have hnb37 := NB3_4.out;have hnc37 := NB4_3.out;have hcz38_0 : w.cell? ⟨b3,0,none⟩ = some (.slice A3 l3.length c3) := (blk_cell BK3.out 0).trans rfl;have hfz38_0 := blk_frozen BK3.out 0;have hcz39_0 : w.cell? ⟨b4,0,none⟩ = some (.slice A4 l4.length c4) := (blk_cell BK4.out 0).trans rfl;have hfz39_0 := blk_frozen BK4.out 0
              go_enter Try.func120,Try.ntmps120
              (try go_wp2);have n0_ := Aside0.mk (blk_drew BK3.out);have n1_ := Aside0.mk (blk_drew BK4.out);have n2_ := Aside0.mk (below_drew1 HB.out);clear BK3;clear BK4;clear HB;have BK3 := n0_;have BK4 := n1_;have HB := n2_;clear n0_ n1_ n2_;have p101 : 0 ≤ ((ji14) : Int) := of_decide_eq_true (by first | (with_reducible assumption) | assumption);have q101 : (ji14) < (l0.length : Int) := of_decide_eq_true (by first | (with_reducible assumption) | assumption);obtain ⟨ad101,A101_0,c101_0,e101,hx101_0,hl101_0,hi101_0⟩ := at_L6 HR0.out (ji14) p101 q101;have hw101_0 := hx101_0;cases e101;replace hx101_0 := (HB.out.cell (World.block_lt_of_cell? w _ hx101_0)).trans hx101_0;have HR101_0 := Aside0.mk hi101_0;have HC101_0 := Aside0.mk hl101_0;clear hi101_0 hl101_0;replace p101 := eq_true p101;replace q101 := eq_true q101;have p102 : 0 ≤ (a2 : Int) := of_decide_eq_true (by first | (with_reducible assumption) | assumption);have q102 : a2 < ((rd_L6 l0 (ji14)).length : Int) := of_decide_eq_true (by first | (with_reducible assumption) | assumption);obtain ⟨ad102,e102,hx102_0⟩ := Kd.at_int HR101_0.out a2 p102 q102;have hw102_0 := hx102_0;cases e102;replace hx102_0 := (HB.out.cell (World.block_lt_of_cell? w _ hx102_0)).trans hx102_0;replace p102 := eq_true p102;replace q102 := eq_true q102;have p103 : 0 ≤ (a1 : Int) := of_decide_eq_true (by first | (with_reducible assumption) | assumption);have q103 : a1 < (l0.length : Int) := of_decide_eq_true (by first | (with_reducible assumption) | assumption);obtain ⟨ad103,A103_0,c103_0,e103,hx103_0,hl103_0,hi103_0⟩ := at_L6 HR0.out a1 p103 q103;have hw103_0 := hx103_0;obtain rfl : ad101 = ad103 := (by injection e103);replace hx103_0 := (HB.out.cell (World.block_lt_of_cell? w _ hx103_0)).trans hx103_0;have HR103_0 := Aside0.mk hi103_0;have HC103_0 := Aside0.mk hl103_0;clear hi103_0 hl103_0;replace p103 := eq_true p103;replace q103 := eq_true q103;have p104 : 0 ≤ ((ji21) : Int) := of_decide_eq_true (by first | (with_reducible assumption) | assumption);have q104 : (ji21) < ((rd_L6 l0 a1).length : Int) := of_decide_eq_true (by first | (with_reducible assumption) | assumption);obtain ⟨ad104,e104,hx104_0⟩ := Kd.at_int HR103_0.out (ji21) p104 q104;have hw104_0 := hx104_0;cases e104;replace hx104_0 := (HB.out.cell (World.block_lt_of_cell? w _ hx104_0)).trans hx104_0;replace p104 := eq_true p104;replace q104 := eq_true q104;refine start_ (n := 20) (S := fun w' => w'.cell? (ad101.add ((ji14)).toNat) = some (.slice (some ad102) (rd_L6 l0 (ji14)).length c101_0) ∧ w'.cell? (ad102.add (a2).toNat) = some (.int .i64 (rd (rd_L6 l0 (ji14)) a2)) ∧ w'.cell? (ad101.add (a1).toNat) = some (.slice (some ad104) (rd_L6 l0 a1).length c103_0) ∧ w'.cell? (ad104.add ((ji21)).toNat) = some (.int .i64 (rd (rd_L6 l0 a1) (ji21)))) (ds := []) #[false,false,false,false,false,false,false,false,false,false,false,false,false,false,false,false,false,false,false,false] (by kernel_rfl) rfl rfl ⟨((HB.out.cell (World.block_lt_of_cell? w _ hw101_0)).trans hw101_0),((HB.out.cell (World.block_lt_of_cell? w _ hw102_0)).trans hw102_0),((HB.out.cell (World.block_lt_of_cell? w _ hw103_0)).trans hw103_0),((HB.out.cell (World.block_lt_of_cell? w _ hw104_0)).trans hw104_0)⟩ (fun hHeld => ?_);refine with_tabW impl_faults_1.tab5 impl_faults_1.bits5 (fun HT_ HW_ => ?_);generalize w.drew = w40 at BK3 BK4 HB HR101_0 HR103_0 hx101_0 hx102_0 hx103_0 hx104_0 hHeld ⊢;refine pure_ (i := 0) (N := some 32) (v := ?_) (a' := ?_) #[true,false,false,false,false,false,false,false,false,false,false,false,false,false,false,false,false,false,false,false] rfl rfl (any_of HT_.out (by kernel_rfl)) (fun _ _ _ h => h) (Or.inl ⟨by rfl,?_⟩) ?_ ?_;rotate_left
              ·intro w';go_simp;with_reducible rfl
              rotate_left
              ·simp only [Act.put,List.setIfInBounds_toArray,List.set_cons_zero,List.set_cons_succ,i64_w,i32_w];rfl
              refine pure_ (i := 1) (N := some 33) (v := ?_) (a' := ?_) #[true,true,false,false,false,false,false,false,false,false,false,false,false,false,false,false,false,false,false,false] rfl rfl (any_of HT_.out (by kernel_rfl)) (fun _ _ _ h => h) (Or.inl ⟨by rfl,?_⟩) ?_ ?_;rotate_left
              ·intro w';go_simp;with_reducible rfl
              rotate_left
              ·simp only [Act.put,List.setIfInBounds_toArray,List.set_cons_zero,List.set_cons_succ,i64_w,i32_w];rfl
              refine pure_ (i := 2) (N := some 34) (v := ?_) (a' := ?_) #[true,true,true,false,false,false,false,false,false,false,false,false,false,false,false,false,false,false,false,false] rfl rfl (any_of HT_.out (by kernel_rfl)) (fun _ _ _ h => h) (Or.inl ⟨by rfl,?_⟩) ?_ ?_;rotate_left
              ·intro w';go_simp;with_reducible rfl
              rotate_left
              ·simp only [Act.put,List.setIfInBounds_toArray,List.set_cons_zero,List.set_cons_succ,i64_w,i32_w];rfl
              refine pure_ (i := 3) (N := some 35) (v := ?_) (a' := ?_) #[true,true,true,true,false,false,false,false,false,false,false,false,false,false,false,false,false,false,false,false] rfl rfl (any_of HT_.out (by kernel_rfl)) (fun _ _ _ h => h) (Or.inl ⟨by rfl,?_⟩) ?_ ?_;rotate_left
              ·intro w';go_simp;with_reducible rfl
              rotate_left
              ·simp only [Act.put,List.setIfInBounds_toArray,List.set_cons_zero,List.set_cons_succ,i64_w,i32_w];rfl
              refine pure_ (i := 5) (N := some 37) (v := ?_) (a' := ?_) #[true,true,true,true,false,true,false,false,false,false,false,false,false,false,false,false,false,false,false,false] rfl rfl (any_of HT_.out (by kernel_rfl)) (fun _ _ _ h => h) (Or.inl ⟨by rfl,?_⟩) ?_ ?_;rotate_left
              ·intro w';go_simp;with_reducible rfl
              rotate_left
              ·simp only [Act.put,List.setIfInBounds_toArray,List.set_cons_zero,List.set_cons_succ,i64_w,i32_w];rfl
              refine pure_ (i := 9) (N := some 41) (v := ?_) (a' := ?_) #[true,true,true,true,false,true,false,false,false,true,false,false,false,false,false,false,false,false,false,false] rfl rfl (any_of HT_.out (by kernel_rfl)) (fun _ _ _ h => h) (Or.inl ⟨by rfl,?_⟩) ?_ ?_;rotate_left
              ·intro w';go_simp;with_reducible rfl
              rotate_left
              ·simp only [Act.put,List.setIfInBounds_toArray,List.set_cons_zero,List.set_cons_succ,i64_w,i32_w];rfl
              refine pure_ (i := 10) (N := some 42) (v := ?_) (a' := ?_) #[true,true,true,true,false,true,false,false,false,true,true,false,false,false,false,false,false,false,false,false] rfl rfl (any_of HT_.out (by kernel_rfl)) (fun _ _ _ h => h) (Or.inl ⟨by rfl,?_⟩) ?_ ?_;rotate_left
              ·intro w';go_simp;with_reducible rfl
              rotate_left
              ·simp only [Act.put,List.setIfInBounds_toArray,List.set_cons_zero,List.set_cons_succ,i64_w,i32_w];rfl
              refine pure_ (i := 11) (N := some 43) (v := ?_) (a' := ?_) #[true,true,true,true,false,true,false,false,false,true,true,true,false,false,false,false,false,false,false,false] rfl rfl (any_of HT_.out (by kernel_rfl)) (fun _ _ _ h => h) (Or.inl ⟨by rfl,?_⟩) ?_ ?_;rotate_left
              ·intro w';go_simp;with_reducible rfl
              rotate_left
              ·simp only [Act.put,List.setIfInBounds_toArray,List.set_cons_zero,List.set_cons_succ,i64_w,i32_w];rfl
              refine pure_ (i := 13) (N := some 45) (v := ?_) (a' := ?_) #[true,true,true,true,false,true,false,false,false,true,true,true,false,true,false,false,false,false,false,false] rfl rfl (any_of HT_.out (by kernel_rfl)) (fun _ _ _ h => h) (Or.inl ⟨by rfl,?_⟩) ?_ ?_;rotate_left
              ·intro w';go_simp;with_reducible rfl
              rotate_left
              ·simp only [Act.put,List.setIfInBounds_toArray,List.set_cons_zero,List.set_cons_succ,i64_w,i32_w];rfl
              refine pure_ (i := 14) (N := some 46) (v := ?_) (a' := ?_) #[true,true,true,true,false,true,false,false,false,true,true,true,false,true,true,false,false,false,false,false] rfl rfl (any_of HT_.out (by kernel_rfl)) (fun _ _ _ h => h) (Or.inl ⟨by rfl,?_⟩) ?_ ?_;rotate_left
              ·intro w';go_simp;with_reducible rfl
              rotate_left
              ·simp only [Act.put,List.setIfInBounds_toArray,List.set_cons_zero,List.set_cons_succ,i64_w,i32_w];rfl
              refine take_ (i := 4) (N := some 36) (v := ?_) (a' := ?_) #[true,true,true,true,true,true,false,false,false,true,true,true,false,true,true,false,false,false,false,false] rfl rfl (take_ofW HT_.out HW_.out (by kernel_rfl)) (fun _ _ _ h => h) (Or.inl ⟨by rfl,?_⟩) hHeld ?_ ?_;rotate_left
              ·rintro w' ⟨s0,s1,s2,s3⟩
               go_simp;with_reducible rfl
              rotate_left
              ·simp only [Act.put,List.setIfInBounds_toArray,List.set_cons_zero,List.set_cons_succ,i64_w,i32_w];rfl
              refine pure_ (i := 6) (N := some 38) (v := ?_) (a' := ?_) #[true,true,true,true,true,true,true,false,false,true,true,true,false,true,true,false,false,false,false,false] rfl rfl (any_of HT_.out (by kernel_rfl)) (fun _ _ _ h => h) (Or.inl ⟨by rfl,?_⟩) ?_ ?_;rotate_left
              ·intro w';go_simp;with_reducible rfl
              rotate_left
              ·simp only [Act.put,List.setIfInBounds_toArray,List.set_cons_zero,List.set_cons_succ,i64_w,i32_w];rfl
              refine take_ (i := 7) (N := some 39) (v := ?_) (a' := ?_) #[true,true,true,true,true,true,true,true,false,true,true,true,false,true,true,false,false,false,false,false] rfl rfl (take_ofW HT_.out HW_.out (by kernel_rfl)) (fun _ _ _ h => h) (Or.inl ⟨by rfl,?_⟩) hHeld ?_ ?_;rotate_left
              ·rintro w' ⟨s0,s1,s2,s3⟩
               go_simp;with_reducible rfl
              rotate_left
              ·simp only [Act.put,List.setIfInBounds_toArray,List.set_cons_zero,List.set_cons_succ,i64_w,i32_w];rfl
              refine pure_ (i := 8) (N := some 40) (v := ?_) (a' := ?_) #[true,true,true,true,true,true,true,true,true,true,true,true,false,true,true,false,false,false,false,false] rfl rfl (any_of HT_.out (by kernel_rfl)) (fun _ _ _ h => h) (Or.inl ⟨by rfl,?_⟩) ?_ ?_;rotate_left
              ·intro w';go_simp;with_reducible rfl
              rotate_left
              ·simp only [Act.put,List.setIfInBounds_toArray,List.set_cons_zero,List.set_cons_succ,i64_w,i32_w];rfl
              refine take_ (i := 12) (N := some 44) (v := ?_) (a' := ?_) #[true,true,true,true,true,true,true,true,true,true,true,true,true,true,true,false,false,false,false,false] rfl rfl (take_ofW HT_.out HW_.out (by kernel_rfl)) (fun _ _ _ h => h) (Or.inl ⟨by rfl,?_⟩) hHeld ?_ ?_;rotate_left
              ·rintro w' ⟨s0,s1,s2,s3⟩
               go_simp;with_reducible rfl
              rotate_left
              ·simp only [Act.put,List.setIfInBounds_toArray,List.set_cons_zero,List.set_cons_succ,i64_w,i32_w];rfl
              refine pure_ (i := 15) (N := some 47) (v := ?_) (a' := ?_) #[true,true,true,true,true,true,true,true,true,true,true,true,true,true,true,true,false,false,false,false] rfl rfl (any_of HT_.out (by kernel_rfl)) (fun _ _ _ h => h) (Or.inl ⟨by rfl,?_⟩) ?_ ?_;rotate_left
              ·intro w';go_simp;with_reducible rfl
              rotate_left
              ·simp only [Act.put,List.setIfInBounds_toArray,List.set_cons_zero,List.set_cons_succ,i64_w,i32_w];rfl
              refine take_ (i := 16) (N := some 48) (v := ?_) (a' := ?_) #[true,true,true,true,true,true,true,true,true,true,true,true,true,true,true,true,true,false,false,false] rfl rfl (take_ofW HT_.out HW_.out (by kernel_rfl)) (fun _ _ _ h => h) (Or.inl ⟨by rfl,?_⟩) hHeld ?_ ?_;rotate_left
              ·rintro w' ⟨s0,s1,s2,s3⟩
               go_simp;with_reducible rfl
              rotate_left
              ·simp only [Act.put,List.setIfInBounds_toArray,List.set_cons_zero,List.set_cons_succ,i64_w,i32_w];rfl
              refine pure_ (i := 17) (N := some 49) (v := ?_) (a' := ?_) #[true,true,true,true,true,true,true,true,true,true,true,true,true,true,true,true,true,true,false,false] rfl rfl (any_of HT_.out (by kernel_rfl)) (fun _ _ _ h => h) (Or.inl ⟨by rfl,?_⟩) ?_ ?_;rotate_left
              ·intro w';go_simp;with_reducible rfl
              rotate_left
              ·simp only [Act.put,List.setIfInBounds_toArray,List.set_cons_zero,List.set_cons_succ,i64_w,i32_w];rfl
              refine pure_ (i := 18) (N := some 50) (v := ?_) (a' := ?_) #[true,true,true,true,true,true,true,true,true,true,true,true,true,true,true,true,true,true,true,false] rfl rfl (any_of HT_.out (by kernel_rfl)) (fun _ _ _ h => h) (Or.inl ⟨by rfl,?_⟩) ?_ ?_;rotate_left
              ·intro w';go_simp;with_reducible rfl
              rotate_left
              ·simp only [Act.put,List.setIfInBounds_toArray,List.set_cons_zero,List.set_cons_succ,i64_w,i32_w];rfl
              refine pure_ (i := 19) (N := some 9) (v := ?_) (a' := ?_) #[true,true,true,true,true,true,true,true,true,true,true,true,true,true,true,true,true,true,true,true] rfl rfl (any_of HT_.out (by kernel_rfl)) (fun _ _ _ h => h) (Or.inl ⟨by rfl,?_⟩) ?_ ?_;rotate_left
              ·intro w';go_simp;with_reducible rfl
              rotate_left
              ·simp only [Act.put,List.setIfInBounds_toArray,List.set_cons_zero,List.set_cons_succ,i64_w,i32_w];rfl
              refine done_ (done_of HT_.out (by kernel_rfl)) ?_;(try go_wp2);have n0_ := Aside0.mk (blk_drew BK3.out);have n1_ := Aside0.mk (blk_drew BK4.out);have n2_ := Aside0.mk (below_drew1 HB.out);clear BK3;clear BK4;clear HB;have BK3 := n0_;have BK4 := n1_;have HB := n2_;clear n0_ n1_ n2_;have p105 : 0 ≤ (a1 : Int) := of_decide_eq_true (by first | (with_reducible assumption) | assumption);have q105 : a1 < (l3.length : Int) := of_decide_eq_true (by first | (with_reducible assumption) | assumption);obtain ⟨ad105,e105,hx105_0,hx105_1,hx105_2⟩ := at_T73 HR3.out a1 p105 q105;have hw105_2 := hx105_2;have hw105_1 := hx105_1;have hw105_0 := hx105_0;cases e105;replace hx105_0 := (HB.out.cell (World.block_lt_of_cell? w _ hx105_0)).trans hx105_0;replace hx105_1 := (HB.out.cell (World.block_lt_of_cell? w _ hx105_1)).trans hx105_1;replace hx105_2 := (HB.out.cell (World.block_lt_of_cell? w _ hx105_2)).trans hx105_2;replace p105 := eq_true p105;replace q105 := eq_true q105;have p106 : 0 ≤ (a2 : Int) := of_decide_eq_true (by first | (with_reducible assumption) | assumption);have q106 : a2 < (l4.length : Int) := of_decide_eq_true (by first | (with_reducible assumption) | assumption);obtain ⟨ad106,e106,hx106_0,hx106_1,hx106_2⟩ := at_T73 HR4.out a2 p106 q106;have hw106_2 := hx106_2;have hw106_1 := hx106_1;have hw106_0 := hx106_0;cases e106;replace hx106_0 := (HB.out.cell (World.block_lt_of_cell? w _ hx106_0)).trans hx106_0;replace hx106_1 := (HB.out.cell (World.block_lt_of_cell? w _ hx106_1)).trans hx106_1;replace hx106_2 := (HB.out.cell (World.block_lt_of_cell? w _ hx106_2)).trans hx106_2;replace p106 := eq_true p106;replace q106 := eq_true q106;refine start_ (n := 14) (S := fun w' => w'.cell? ⟨b3,0,none⟩ = some (.slice (some ad105) l3.length c3) ∧ w'.cell? ⟨b4,0,none⟩ = some (.slice (some ad106) l4.length c4) ∧ w'.cell? (ad105.add ((a1).toNat * 3)) = some (.int .i64 ((rd_T73 l3 a1).f0)) ∧ w'.cell? ⟨(ad105.add ((a1).toNat * 3)).block,(ad105.add ((a1).toNat * 3)).off + 1,none⟩ = some (.int .i64 ((rd_T73 l3 a1).f1)) ∧ w'.cell? ⟨(ad105.add ((a1).toNat * 3)).block,(ad105.add ((a1).toNat * 3)).off + 2,none⟩ = some (.bool ((rd_T73 l3 a1).f2)) ∧ w'.cell? (ad106.add ((a2).toNat * 3)) = some (.int .i64 ((rd_T73 l4 a2).f0)) ∧ w'.cell? ⟨(ad106.add ((a2).toNat * 3)).block,(ad106.add ((a2).toNat * 3)).off + 1,none⟩ = some (.int .i64 ((rd_T73 l4 a2).f1)) ∧ w'.cell? ⟨(ad106.add ((a2).toNat * 3)).block,(ad106.add ((a2).toNat * 3)).off + 2,none⟩ = some (.bool ((rd_T73 l4 a2).f2))) (ds := []) #[false,false,false,false,false,false,false,false,false,false,false,false,false,false] (by kernel_rfl) rfl rfl ⟨(blk_cell BK3.out 0).trans rfl,(blk_cell BK4.out 0).trans rfl,((HB.out.cell (World.block_lt_of_cell? w _ hw105_0)).trans hw105_0),((HB.out.cell (World.block_lt_of_cell? w _ hw105_1)).trans hw105_1),((HB.out.cell (World.block_lt_of_cell? w _ hw105_2)).trans hw105_2),((HB.out.cell (World.block_lt_of_cell? w _ hw106_0)).trans hw106_0),((HB.out.cell (World.block_lt_of_cell? w _ hw106_1)).trans hw106_1),((HB.out.cell (World.block_lt_of_cell? w _ hw106_2)).trans hw106_2)⟩ (fun hHeld => ?_);refine with_tabW impl_faults_1.tab6 impl_faults_1.bits6 (fun HT_ HW_ => ?_);generalize w40.drew = w41 at BK3 BK4 HB hx105_0 hx105_1 hx105_2 hx106_0 hx106_1 hx106_2 hHeld ⊢;refine pure_ (i := 1) (N := some 53) (v := ?_) (a' := ?_) #[false,true,false,false,false,false,false,false,false,false,false,false,false,false] rfl rfl (any_of HT_.out (by kernel_rfl)) (fun _ _ _ h => h) (Or.inl ⟨by rfl,?_⟩) ?_ ?_;rotate_left
              ·intro w';go_simp;with_reducible rfl
              rotate_left
              ·simp only [Act.put,List.setIfInBounds_toArray,List.set_cons_zero,List.set_cons_succ,i64_w,i32_w];rfl
              refine pure_ (i := 5) (N := some 57) (v := ?_) (a' := ?_) #[false,true,false,false,false,true,false,false,false,false,false,false,false,false] rfl rfl (any_of HT_.out (by kernel_rfl)) (fun _ _ _ h => h) (Or.inl ⟨by rfl,?_⟩) ?_ ?_;rotate_left
              ·intro w';go_simp;with_reducible rfl
              rotate_left
              ·simp only [Act.put,List.setIfInBounds_toArray,List.set_cons_zero,List.set_cons_succ,i64_w,i32_w];rfl
              refine take_ (i := 0) (N := some 52) (v := ?_) (a' := ?_) #[true,true,false,false,false,true,false,false,false,false,false,false,false,false] rfl rfl (take_ofW HT_.out HW_.out (by kernel_rfl)) (fun _ _ _ h => h) (Or.inl ⟨by rfl,?_⟩) hHeld ?_ ?_;rotate_left
              ·rintro w' ⟨s0,s1,s2,s3,s4,s5,s6,s7⟩
               go_simp;with_reducible rfl
              rotate_left
              ·simp only [Act.put,List.setIfInBounds_toArray,List.set_cons_zero,List.set_cons_succ,i64_w,i32_w];rfl
              refine pure_ (i := 2) (N := some 54) (v := ?_) (a' := ?_) #[true,true,true,false,false,true,false,false,false,false,false,false,false,false] rfl rfl (any_of HT_.out (by kernel_rfl)) (fun _ _ _ h => h) (Or.inl ⟨by rfl,?_⟩) ?_ ?_;rotate_left
              ·intro w';go_simp;with_reducible rfl
              rotate_left
              ·simp only [Act.put,List.setIfInBounds_toArray,List.set_cons_zero,List.set_cons_succ,i64_w,i32_w];rfl
              refine take_ (i := 3) (N := some 55) (v := ?_) (a' := ?_) #[true,true,true,true,false,true,false,false,false,false,false,false,false,false] rfl rfl (take_ofW HT_.out HW_.out (by kernel_rfl)) (fun _ _ _ h => h) (Or.inl ⟨by rfl,?_⟩) hHeld ?_ ?_;rotate_left
              ·rintro w' ⟨s0,s1,s2,s3,s4,s5,s6,s7⟩
               go_simp;with_reducible rfl
              rotate_left
              ·simp only [Act.put,List.setIfInBounds_toArray,List.set_cons_zero,List.set_cons_succ,i64_w,i32_w];rfl
              refine take_ (i := 4) (N := some 56) (v := ?_) (a' := ?_) #[true,true,true,true,true,true,false,false,false,false,false,false,false,false] rfl rfl (take_ofW HT_.out HW_.out (by kernel_rfl)) (fun _ _ _ h => h) (Or.inl ⟨by rfl,?_⟩) hHeld ?_ ?_;rotate_left
              ·rintro w' ⟨s0,s1,s2,s3,s4,s5,s6,s7⟩
               go_simp;with_reducible rfl
              rotate_left
              ·simp only [Act.put,List.setIfInBounds_toArray,List.set_cons_zero,List.set_cons_succ,i64_w,i32_w];rfl
              refine pure_ (i := 6) (N := some 58) (v := ?_) (a' := ?_) #[true,true,true,true,true,true,true,false,false,false,false,false,false,false] rfl rfl (any_of HT_.out (by kernel_rfl)) (fun _ _ _ h => h) (Or.inl ⟨by rfl,?_⟩) ?_ ?_;rotate_left
              ·intro w';go_simp;with_reducible rfl
              rotate_left
              ·simp only [Act.put,List.setIfInBounds_toArray,List.set_cons_zero,List.set_cons_succ,i64_w,i32_w];rfl
              refine take_ (i := 7) (N := some 59) (v := ?_) (a' := ?_) #[true,true,true,true,true,true,true,true,false,false,false,false,false,false] rfl rfl (take_ofW HT_.out HW_.out (by kernel_rfl)) (fun _ _ _ h => h) (Or.inl ⟨by rfl,?_⟩) hHeld ?_ ?_;rotate_left
              ·rintro w' ⟨s0,s1,s2,s3,s4,s5,s6,s7⟩
               go_simp;with_reducible rfl
              rotate_left
              ·simp only [Act.put,List.setIfInBounds_toArray,List.set_cons_zero,List.set_cons_succ,i64_w,i32_w];rfl
              refine one_ (i := 8) (N := some 60) #[true,true,true,true,true,true,true,true,true,false,false,false,false,false] rfl rfl (one_of HT_.out (by kernel_rfl)) (by decide) (fun K hK => ?_);refine goes_ Try.func98 (by kernel_rfl) rfl #[.agg #[.int .i64 ((rd_T73 l3 a1).f0),.int .i64 ((rd_T73 l3 a1).f1),.bool ((rd_T73 l3 a1).f2)],.agg #[.int .i64 ((rd_T73 l4 a2).f0),.int .i64 ((rd_T73 l4 a2).f1),.bool ((rd_T73 l4 a2).f2)]] (by rfl) rfl rfl (by (try simp only [List.map_toArray,List.map_cons,List.map_nil]);first | done | rfl | (simp only [List.length_drop,List.length_take];rfl)) ?_
              with_reducible refine (impl_stepFaults.calls ((rd_T73 l3 a1).f0) ((rd_T73 l3 a1).f1) ((rd_T73 l3 a1).f2) ((rd_T73 l4 a2).f0) ((rd_T73 l4 a2).f1) ((rd_T73 l4 a2).f2) t107 false _ A27.out).mono ?_
              rintro e w42 ⟨rfl,hb⟩
              refine ⟨_,rfl,?_⟩;have n0_ := Aside0.mk (blk_below (g := b3) (o := .cells #[.slice (some ad105) l3.length c3] 26 (0,0)) (by (with_reducible repeat (first | refine blk_drewN ?_ _ | refine blk_drew ?_ | refine blk_alloc ?_ _));exact BK3.out) hb);have n1_ := Aside0.mk (blk_below (g := b4) (o := .cells #[.slice (some ad106) l4.length c4] 26 (0,0)) (by (with_reducible repeat (first | refine blk_drewN ?_ _ | refine blk_drew ?_ | refine blk_alloc ?_ _));exact BK4.out) hb);have n2_ := Aside0.mk (below_step (by repeat (first | (with_reducible first | exact HB.out | apply below_alloc | apply pw_below_drewN | apply below_drew1 | refine below_set ?_ GE3.out | refine below_set ?_ GE4.out) | exact HB.out)) hb);clear BK3;clear BK4;clear HB;have BK3 := n0_;have BK4 := n1_;have HB := n2_;clear n0_ n1_ n2_;(try clear hb);(try clear hb2);(try clear hk);(try clear hi);refine hK.out _ _ ⟨(blk_cell BK3.out 0).trans rfl,(blk_cell BK4.out 0).trans rfl,((HB.out.cell (World.block_lt_of_cell? w _ hw105_0)).trans hw105_0),((HB.out.cell (World.block_lt_of_cell? w _ hw105_1)).trans hw105_1),((HB.out.cell (World.block_lt_of_cell? w _ hw105_2)).trans hw105_2),((HB.out.cell (World.block_lt_of_cell? w _ hw106_0)).trans hw106_0),((HB.out.cell (World.block_lt_of_cell? w _ hw106_1)).trans hw106_1),((HB.out.cell (World.block_lt_of_cell? w _ hw106_2)).trans hw106_2)⟩ (fun hHeld => ?_);clear hK K;refine norm_ (a' := ?_) ?_ ?_;rotate_left
              ·show Act.put _ (some 60) _ = _
               simp only [Act.put,List.setIfInBounds_toArray,List.set_cons_zero,List.set_cons_succ,i64_w,i32_w];rfl
              refine pure_ (i := 9) (N := some 51) (v := ?_) (a' := ?_) #[true,true,true,true,true,true,true,true,true,true,false,false,false,false] rfl rfl (any_of HT_.out (by kernel_rfl)) (fun _ _ _ h => h) (Or.inl ⟨by rfl,?_⟩) ?_ ?_;rotate_left
              ·intro w';go_simp;with_reducible rfl
              rotate_left
              ·simp only [Act.put,List.setIfInBounds_toArray,List.set_cons_zero,List.set_cons_succ,i64_w,i32_w];rfl
              refine pure_ (i := 10) (N := some 61) (v := ?_) (a' := ?_) #[true,true,true,true,true,true,true,true,true,true,true,false,false,false] rfl rfl (any_of HT_.out (by kernel_rfl)) (fun _ _ _ h => h) (Or.inl ⟨by rfl,?_⟩) ?_ ?_;rotate_left
              ·intro w';go_simp;with_reducible rfl
              rotate_left
              ·simp only [Act.put,List.setIfInBounds_toArray,List.set_cons_zero,List.set_cons_succ,i64_w,i32_w];rfl
              refine pure_ (i := 11) (N := some 62) (v := ?_) (a' := ?_) #[true,true,true,true,true,true,true,true,true,true,true,true,false,false] rfl rfl (any_of HT_.out (by kernel_rfl)) (fun _ _ _ h => h) (Or.inl ⟨by rfl,?_⟩) ?_ ?_;rotate_left
              ·intro w';go_simp;with_reducible rfl
              rotate_left
              ·simp only [Act.put,List.setIfInBounds_toArray,List.set_cons_zero,List.set_cons_succ,i64_w,i32_w];rfl
              refine pure_ (i := 12) (N := some 10) (v := ?_) (a' := ?_) #[true,true,true,true,true,true,true,true,true,true,true,true,true,false] rfl rfl (any_of HT_.out (by kernel_rfl)) (fun _ _ _ h => h) (Or.inl ⟨by rfl,?_⟩) ?_ ?_;rotate_left
              ·intro w';go_simp;with_reducible rfl
              rotate_left
              ·simp only [Act.put,List.setIfInBounds_toArray,List.set_cons_zero,List.set_cons_succ,i64_w,i32_w];rfl
              refine pure_ (i := 13) (N := some 11) (v := ?_) (a' := ?_) #[true,true,true,true,true,true,true,true,true,true,true,true,true,true] rfl rfl (any_of HT_.out (by kernel_rfl)) (fun _ _ _ h => h) (Or.inl ⟨by rfl,?_⟩) ?_ ?_;rotate_left
              ·intro w';go_simp;with_reducible rfl
              rotate_left
              ·simp only [Act.put,List.setIfInBounds_toArray,List.set_cons_zero,List.set_cons_succ,i64_w,i32_w];rfl
              refine done_ (done_of HT_.out (by kernel_rfl)) ?_;(try go_wp2)
              go_ret
              exact ⟨by first | rfl | (simp [errW_none,errW_some,IntKind.wrap_i64,wrap64];done) | (simp [errW_none,errW_some] <;> rfl) | (simp only [← hji14,← hji21,← hji24];first | rfl | (simp [errW_none,errW_some] <;> rfl)) | (simp [*,errW_none,errW_some] <;> rfl),by repeat (first | (with_reducible first | exact HB.out | apply below_alloc | apply pw_below_drewN | apply below_drew1 | refine below_set ?_ GE3.out | refine below_set ?_ GE4.out) | exact HB.out)⟩
            ·rw [if_neg c26] at H;exact absurd H (by simp)
           ·rw [if_neg c25] at H;exact absurd H (by simp)
          ·rw [if_neg c23] at H;exact absurd H (by simp)
         ·rw [if_neg c22] at H;exact absurd H (by simp)
        ·rw [if_neg c20] at H;exact absurd H (by simp)
       ·rw [if_neg c19] at H;exact absurd H (by simp)
      ·rw [if_neg c18] at H;exact absurd H (by simp)
     ·rw [if_neg c17] at H;exact absurd H (by simp)
    ·rw [if_neg c16] at H;exact absurd H (by simp)
   ·rw [if_neg c15] at H;exact absurd H (by simp)
end Go.Proofs.Ytidkniacmcbgiaa.G
end

section
namespace Go.Proofs.Ytidkniacmcbgiaa.G
open Go.RowKit Go.Proofs.YtidkniacmcbgiaaW.PrintWords Go.Proofs.YtidkniacmcbgiaaW.PrintLast Go.Proofs.YtidkniacmcbgiaaW.PrintMore
attribute [local go_sem] max2_int min2_int max_two min_two max_three min_three max_four min_four
set_option linter.unusedVariables false
set_option linter.unusedSimpArgs false
mutual
def impl_table__impl_faults_1.l0 : Nat → List (S73) → List (List Int) → Int → List (S73) → List (S73) → Option ((List (List Int)))
 | 0,_,_,_,_,_ => none
 | k + 1,x1,x7,x8,x3000,x4000 => if x8 ≥ 0 then (if 0 ≤ (wrap64 ((x1.length : Int) + 1)) then (if (wrap64 ((x1.length : Int) + 1) : Int).toNat ≤ 35184372088832 then (if 0 ≤ x8 then (if x8 < (x7.length : Int) then (impl_table__impl_faults_1.l1 k x1 (x7.set (x8 : Int).toNat (List.replicate (wrap64 ((x1.length : Int) + 1) : Int).toNat 0)) x8 (x1.length : Int) x3000 x4000) else (none)) else (none)) else (none)) else (none)) else (some x7)
def impl_table__impl_faults_1.l1 : Nat → List (S73) → List (List Int) → Int → Int → List (S73) → List (S73) → Option ((List (List Int)))
 | 0,_,_,_,_,_,_ => none
 | k + 1,x1,x7,x8,x9,x3000,x4000 => if x9 ≥ 0 then (if 0 ≤ x8 then (if x8 < (x7.length : Int) then ((impl_faults_1.f x7 x8 x9 x3000 x4000).bind fun t109 => (if 0 ≤ x9 then (if x9 < ((rd_L6 x7 x8).length : Int) then (impl_table__impl_faults_1.l1 k x1 (x7.set (x8 : Int).toNat ((rd_L6 x7 x8).set (x9 : Int).toNat t109)) x8 (wrap64 (x9 - 1)) x3000 x4000) else (none)) else (none))) else (none)) else (none)) else (impl_table__impl_faults_1.l0 k x1 x7 (wrap64 (x8 - 1)) x3000 x4000)
end
def impl_table__impl_faults_1.f (k : Nat) (l0 : List (S73)) (l1 : List (S73)) (l2 : List (S73)) (l3 : List (S73)) : Option ((List (List Int))) := if 0 ≤ (wrap64 ((l0.length : Int) + 1)) then (if (wrap64 ((l0.length : Int) + 1) : Int).toNat ≤ 11728124029610 then (impl_table__impl_faults_1.l0 k l1 (List.replicate (wrap64 ((l0.length : Int) + 1) : Int).toNat []) (l0.length : Int) l2 l3) else (none)) else (none)
def impl_table__impl_faults_1.T9 : Bool × List (List Nat × List Nat) := (true,[([],[]),([],[]),([0,1],[0,1]),([2],[2]),([],[]),([],[]),([],[]),([],[]),([],[]),([5,6,7,8],[5,6,7,8]),([3,4,0,1,2,3,4,5,6,7,8,9],[3,4]),([10,9,9,0,1,2,3,4,5,6,7,8,9],[9,10])])
def impl_table__impl_faults_1.B9 : List Nat := [0,0,3,7,0,0,0,0,0,480,1023,2047]
theorem impl_table__impl_faults_1.tab9 : rtab .any (opsOf Try.f108 9) = impl_table__impl_faults_1.T9 := by kernel_rfl
theorem impl_table__impl_faults_1.bits9 : waitsOk impl_table__impl_faults_1.T9.2 impl_table__impl_faults_1.B9 = true := by kernel_rfl
set_option maxHeartbeats 8000000 in
set_option maxRecDepth 100000 in
theorem impl_table__impl_faults_1.calls (k : Nat) (A0 : Option Addr) (c0 : Nat) (l0 : List (S73)) (A1 : Option Addr) (c1 : Nat) (l1 : List (S73)) (A2 : Option Addr) (c2 : Nat) (l2 : List (S73)) (b2 : Nat) (A3 : Option Addr) (c3 : Nat) (l3 : List (S73)) (b3 : Nat) (r : List (List Int)) (w : World) (hr0 : Kd.C k73 w A0 l0.length l0) (hc0 : l0.length ≤ c0) (hr1 : Kd.C k73 w A1 l1.length l1) (hc1 : l1.length ≤ c1) (hr2 : Kd.C k73 w A2 l2.length l2) (hc2 : l2.length ≤ c2) (hr3 : Kd.C k73 w A3 l3.length l3) (hc3 : l3.length ≤ c3) (hb2 : w.heap[b2]? = some (.cells #[.slice A2 l2.length c2] 26 (0,0))) (hb3 : w.heap[b3]? = some (.cells #[.slice A3 l3.length c3] 26 (0,0))) (hn2_3 : b2 ≠ b3) (h : impl_table__impl_faults_1.f k l0 l1 l2 l3 = some r) :
  Calls Try.prog 108 #[.slice A0 l0.length c0,.slice A1 l1.length c1,.func (.func 120) #[] #[.pointer (some ⟨b2,0,none⟩),.pointer (some ⟨b3,0,none⟩)]] w fun e w' => ∃ v0_ : Value,e = .returned (v0_) ∧ Kd.S (Kd.slice 2 (Kd.int .i64)) 37 w' w.heap.size (fun _ => True) v0_ r ∧ Below w.heap.size w w' := by
 have HR0 := Aside0.mk hr0;have HC0 := Aside0.mk hc0;clear hr0 hc0;have HR1 := Aside0.mk hr1;have HC1 := Aside0.mk hc1;clear hr1 hc1;have HR2 := Aside0.mk hr2;have HC2 := Aside0.mk hc2;clear hr2 hc2;have HR3 := Aside0.mk hr3;have HC3 := Aside0.mk hc3;clear hr3 hc3;have BK2 := Aside0.mk hb2;clear hb2;have BK3 := Aside0.mk hb3;clear hb3;have NB2_3 := Aside0.mk hn2_3;have NB3_2 := Aside0.mk (Ne.symm hn2_3);clear hn2_3;have HB := Aside0.mk (Below.refl w.heap.size w);have H : (if 0 ≤ (wrap64 ((l0.length : Int) + 1)) then (if (wrap64 ((l0.length : Int) + 1) : Int).toNat ≤ 11728124029610 then (impl_table__impl_faults_1.l0 k l1 (List.replicate (wrap64 ((l0.length : Int) + 1) : Int).toNat []) (l0.length : Int) l2 l3) else (none)) else (none)) = some r := h;clear h;obtain ⟨ji5,hji5⟩ : ∃ j_ : Int,(wrap64 ((l0.length : Int) + 1)) = j_ := ⟨_,rfl⟩
 replace H : (if 0 ≤ (ji5) then (if (ji5 : Int).toNat ≤ 11728124029610 then (impl_table__impl_faults_1.l0 k l1 (List.replicate (ji5 : Int).toNat []) (l0.length : Int) l2 l3) else (none)) else (none)) = some r := by first | (rw [hji5] at H;exact H) | (simp only [hji5] at H ⊢;exact H)
 have hji5w : (IntKind.i64.wrap ((l0.length : Int) + 1)) = ji5 := (i64_w _).trans hji5
 by_cases c6 : 0 ≤ (ji5)
 ·rw [if_pos c6] at H;have c6b0 := eq_true c6;have c6b1 : decide (0 ≤ (ji5)) = true := decide_eq_true c6;clear c6
  by_cases c7 : (ji5 : Int).toNat ≤ 11728124029610
  ·rw [if_pos c7] at H;have c7b0 := eq_true c7;have c7b1 : decide ((ji5 : Int).toNat ≤ 11728124029610) = true := decide_eq_true c7;clear c7;obtain ⟨y101,hy101⟩ : ∃ y_ : List (List Int),y_ = (List.replicate (ji5 : Int).toNat []) := ⟨_,rfl⟩
   replace H : (impl_table__impl_faults_1.l0 k l1 y101 (l0.length : Int) l2 l3) = some r := by first | (rw [hy101];with_reducible exact H) | (have H2_ := (Option.bind_some _ _).symm.trans H;rw [hy101];with_reducible exact H2_) | (have H2_ := (Option.bind_some _ _).symm.trans H;with_reducible exact H2_) | with_reducible exact H | (rw [hy101];exact H) | exact H
   have Ny101 := Aside0.mk hy101;clear hy101;have H' := Aside0.mk H;clear H
   go_enter Try.func108,Try.ntmps108
   go_wp2_with (first | ((with_reducible refine gate_dst (N := 13) rfl ?_);refine Kd.S_make (Kd.slice 2 (Kd.int .i64)) _ 37 rfl (N := 13) rfl 88 _ _ rfl ji5 rfl rfl Try.underlying88 (.slice none 0 0) 24 info37 rfl (by decide) (by omega) [] (ok := fun _ => True) (okp := fun _ => True) ⟨_,rfl,Kd.R_nil _ _ _ _ _⟩ (fun _ hk => hk) trivial (of_decide_eq_true (by first | (with_reducible assumption) | assumption)) (Nat.le_trans (Nat.mul_le_mul_right _ (of_decide_eq_true (by first | (with_reducible assumption) | assumption) : ji5.toNat ≤ 11728124029610)) (by omega)) (Below.refl _ _) (Nat.le_refl _) ?_;intro v102 w8 ho9 hb hg_ hnew_;clear hg_ hnew_;(first | rw [← Ny101.out] at ho9 | (simp only [Int.reduceToNat] at ho9;rw [← Ny101.out] at ho9));have n0_ := Aside0.mk (Kd.S_lower ho9 (below_size (by repeat (first | (with_reducible first | exact HB.out | apply below_alloc | apply pw_below_drewN | apply below_drew1 | refine below_set ?_ GE2.out | refine below_set ?_ GE3.out) | exact HB.out))));have n1_ := Aside0.mk (blk_below (g := b2) (o := .cells #[.slice A2 l2.length c2] 26 (0,0)) (by (with_reducible repeat (first | refine blk_drewN ?_ _ | refine blk_drew ?_ | refine blk_alloc ?_ _));exact BK2.out) hb);have n2_ := Aside0.mk (blk_below (g := b3) (o := .cells #[.slice A3 l3.length c3] 26 (0,0)) (by (with_reducible repeat (first | refine blk_drewN ?_ _ | refine blk_drew ?_ | refine blk_alloc ?_ _));exact BK3.out) hb);have n3_ := Aside0.mk (below_step (by repeat (first | (with_reducible first | exact HB.out | apply below_alloc | apply pw_below_drewN | apply below_drew1 | refine below_set ?_ GE2.out | refine below_set ?_ GE3.out) | exact HB.out)) hb);clear BK2;clear BK3;clear HB;have HO103 := n0_;have BK2 := n1_;have BK3 := n2_;have HB := n3_;clear n0_ n1_ n2_ n3_;clear hb ho9))
   go_loopg [8] k (fun kq v8 w' => ∃ (x7_1 : List (List Int)) (x8_1 : Int),v8 = .int .i64 x8_1 ∧ Aside0 (impl_table__impl_faults_1.l0 kq l1 x7_1 x8_1 l2 l3 = some r) ∧ Aside0 (kq ≤ k) ∧ Aside0 (Kd.S (Kd.slice 2 (Kd.int .i64)) 37 w' w.heap.size (fun _ => True) v102 x7_1) ∧ Aside0 (w'.heap[b2]? = some (.cells #[(.slice A2 l2.length c2)] 26 (0,0))) ∧ Aside0 (w'.heap[b3]? = some (.cells #[(.slice A3 l3.length c3)] 26 (0,0))) ∧ Aside0 (Below w.heap.size w w'))
   case atStart => exact ⟨(y101),((l0.length : Int)),(by first | rfl | (simp only [IntKind.wrap_i64,wrap64];done) | (simp;done) | (simp [*];done)),H',⟨Nat.le_refl _⟩,⟨by (with_reducible repeat (first | apply Kd.S_alloc | apply Kd.S_drewN | apply Kd.S_drew));exact HO103.out⟩,⟨by (with_reducible repeat (first | refine blk_drewN ?_ _ | refine blk_drew ?_ | refine blk_alloc ?_ _));exact BK2.out⟩,⟨by (with_reducible repeat (first | refine blk_drewN ?_ _ | refine blk_drew ?_ | refine blk_alloc ?_ _));exact BK3.out⟩,⟨by repeat (first | (with_reducible first | exact HB.out | apply below_alloc | apply pw_below_drewN | apply below_drew1 | refine below_set ?_ GE2.out | refine below_set ?_ GE3.out) | exact HB.out)⟩⟩
   case round =>
    clear H';(try clear c1);(try clear c2);(try clear p2);(try clear c3);(try clear c6);(try clear c6b0);(try clear c6b1);(try clear p6);(try clear c7);(try clear c7b0);(try clear c7b1);obtain ⟨x7_1,x8_1,rfl,HA,HK1,HO_7,BK2,BK3,HB⟩ := hrel
    cases gk with
    | zero => exact absurd HA.out (by simp [impl_table__impl_faults_1.l0])
    | succ k1 =>
     have H := HA.out;clear HA;simp only [impl_table__impl_faults_1.l0] at H
     by_cases c10 : x8_1 ≥ 0
     ·rw [if_pos c10] at H;have c10b0 : decide (0 ≤ x8_1) = true := decide_eq_true c10;clear c10;obtain ⟨ji11,hji11⟩ : ∃ j_ : Int,(wrap64 ((l1.length : Int) + 1)) = j_ := ⟨_,rfl⟩
      replace H : (if 0 ≤ (ji11) then (if (ji11 : Int).toNat ≤ 35184372088832 then (if 0 ≤ x8_1 then (if x8_1 < (x7_1.length : Int) then (impl_table__impl_faults_1.l1 k1 l1 (x7_1.set (x8_1 : Int).toNat (List.replicate (ji11 : Int).toNat 0)) x8_1 (l1.length : Int) l2 l3) else (none)) else (none)) else (none)) else (none)) = some r := by first | (rw [hji11] at H;exact H) | (simp only [hji11] at H ⊢;exact H)
      have hji11w : (IntKind.i64.wrap ((l1.length : Int) + 1)) = ji11 := (i64_w _).trans hji11
      by_cases c12 : 0 ≤ (ji11)
      ·rw [if_pos c12] at H;have c12b0 := eq_true c12;have c12b1 : decide (0 ≤ (ji11)) = true := decide_eq_true c12;clear c12
       by_cases c13 : (ji11 : Int).toNat ≤ 35184372088832
       ·rw [if_pos c13] at H;have c13b0 := eq_true c13;have c13b1 : decide ((ji11 : Int).toNat ≤ 35184372088832) = true := decide_eq_true c13;clear c13;obtain ⟨y104,hy104⟩ : ∃ y_ : List Int,y_ = (List.replicate (ji11 : Int).toNat 0) := ⟨_,rfl⟩
        replace H : (if 0 ≤ x8_1 then (if x8_1 < (x7_1.length : Int) then (impl_table__impl_faults_1.l1 k1 l1 (x7_1.set (x8_1 : Int).toNat y104) x8_1 (l1.length : Int) l2 l3) else (none)) else (none)) = some r := by first | (rw [hy104];with_reducible exact H) | (have H2_ := (Option.bind_some _ _).symm.trans H;rw [hy104];with_reducible exact H2_) | (have H2_ := (Option.bind_some _ _).symm.trans H;with_reducible exact H2_) | with_reducible exact H | (rw [hy104];exact H) | exact H
        have Ny104 := Aside0.mk hy104;clear hy104
        by_cases c14 : 0 ≤ x8_1
        ·rw [if_pos c14] at H;have c14b0 : decide (0 ≤ x8_1) = true := decide_eq_true c14;clear c14
         by_cases c15 : x8_1 < (x7_1.length : Int)
         ·rw [if_pos c15] at H;have c15b0 : decide (x8_1 < (x7_1.length : Int)) = true := decide_eq_true c15;clear c15;obtain ⟨y107,hy107⟩ : ∃ y_ : List (List Int),y_ = (x7_1.set (x8_1 : Int).toNat y104) := ⟨_,rfl⟩
          replace H : (impl_table__impl_faults_1.l1 k1 l1 y107 x8_1 (l1.length : Int) l2 l3) = some r := by first | (rw [hy107];with_reducible exact H) | (have H2_ := (Option.bind_some _ _).symm.trans H;rw [hy107];with_reducible exact H2_) | (have H2_ := (Option.bind_some _ _).symm.trans H;with_reducible exact H2_) | with_reducible exact H | (rw [hy107];exact H) | exact H
          have Ny107 := Aside0.mk hy107;clear hy107;have H' := Aside0.mk H;clear H
          go_wp2_with (first | ((with_reducible refine gate_dst (N := 25) rfl ?_);refine Kd.R_make (Kd.int .i64) _ 2 rfl (N := 25) rfl 37 _ _ rfl ji11 rfl rfl Try.underlying37 (.int .i64 0) 8 info2 rfl (by decide) (by omega) 0 (ok := fun _ => True) (okp := fun _ => True) rfl (fun _ hk => hk) trivial (of_decide_eq_true (by first | (with_reducible assumption) | assumption)) (Nat.le_trans (Nat.mul_le_mul_right _ (of_decide_eq_true (by first | (with_reducible assumption) | assumption) : ji11.toNat ≤ 35184372088832)) (by omega)) (Below.refl _ _) (Nat.le_refl _) ?_;intro v105 w17 ho18 hb hg_ hnew_;clear hg_ hnew_;(first | rw [← Ny104.out] at ho18 | (simp only [Int.reduceToNat] at ho18;rw [← Ny104.out] at ho18));have n0_ := Aside0.mk (Kd.S_elder' (by (with_reducible repeat (first | apply Kd.S_alloc | apply Kd.S_drewN | apply Kd.S_drew));exact HO_7.out) (Kd.R_base ho18) hb);have n1_ := Aside0.mk (Kd.R_lower ho18 (below_size (by repeat (first | (with_reducible first | exact HB.out | apply below_alloc | apply pw_below_drewN | apply below_drew1 | refine below_set ?_ GE2.out | refine below_set ?_ GE3.out) | exact HB.out))));have n2_ := Aside0.mk (blk_below (g := b2) (o := .cells #[.slice A2 l2.length c2] 26 (0,0)) (by (with_reducible repeat (first | refine blk_drewN ?_ _ | refine blk_drew ?_ | refine blk_alloc ?_ _));exact BK2.out) hb);have n3_ := Aside0.mk (blk_below (g := b3) (o := .cells #[.slice A3 l3.length c3] 26 (0,0)) (by (with_reducible repeat (first | refine blk_drewN ?_ _ | refine blk_drew ?_ | refine blk_alloc ?_ _));exact BK3.out) hb);have n4_ := Aside0.mk (below_step (by repeat (first | (with_reducible first | exact HB.out | apply below_alloc | apply pw_below_drewN | apply below_drew1 | refine below_set ?_ GE2.out | refine below_set ?_ GE3.out) | exact HB.out)) hb);clear HO_7;clear BK2;clear BK3;clear HB;have HO_7 := n0_;have HO106 := n1_;have BK2 := n2_;have BK3 := n3_;have HB := n4_;clear n0_ n1_ n2_ n3_ n4_;clear hb ho18;have p16 : 0 ≤ (x8_1 : Int) := of_decide_eq_true (by first | (with_reducible assumption) | assumption);have q16 : (x8_1 : Int) < ((x7_1.length : Int) : Int) := of_decide_eq_true (by first | (with_reducible assumption) | assumption);obtain ⟨go16,co16,eo16,gb16,gl16,cl16,HG16⟩ := Kd.S_form HO_7.out (by omega);(first | cases eo16 | (injection eo16 with ea_ en_ ec_;(first | subst ea_ | (injection ea_ with ea_;subst ea_));subst ec_;clear en_));have GB16 := Aside0.mk gb16;have GG16 := Aside0.mk HG16;clear gb16 gl16 HG16;obtain ⟨_,ce16,hcl16,hM16,hcc16,hfr16,_,_⟩ := Kd.S_elem HO_7.out [] (x8_1 : Int) p16 q16;obtain ⟨ve16_0,rfl,ge16_0⟩ := hM16;have hx16_0 := hcc16 0 _ rfl;have hf16_0 := hfr16 0;(try simp only [show ((Kd.slice 2 (Kd.int .i64))).sz = 1 from rfl,Nat.mul_one,Nat.add_zero] at hx16_0);(try simp only [show ((Kd.slice 2 (Kd.int .i64))).sz = 1 from rfl,Nat.mul_one,Nat.add_zero] at hf16_0);(clear hcl16 hcc16 hfr16;(try clear hM16));replace p16 := eq_true p16;replace q16 := eq_true q16;have n_ := Aside0.mk (Kd.S_mono (ok' := (fun k_ => some k_ ≠ (v105 : Value).ownBlock)) HO_7.out (fun k_ hk => hk.2));clear HO_7;have HO_7 := n_;clear n_;have HX19 := Aside0.mk (show Kd.S (Kd.slice 2 (Kd.int .i64)) 37 w17 w.heap.size (fun k_ => ((fun _ => True)) k_ ∧ ¬ ((fun k_ => some k_ = (v105 : Value).ownBlock)) k_) (.slice (some ⟨go16,0,none⟩) x7_1.length co16) x7_1 from (by (with_reducible repeat (first | apply Kd.S_alloc | apply Kd.S_drewN | apply Kd.S_drew));exact Kd.S_mono HO_7.out (fun k_ hk => ⟨trivial,fun e_ => hk e_⟩)));obtain ⟨oki19,ce19,hcl19,hM19,hcc19,hfr19,hoki19,hH19⟩ := Kd.S_elem HX19.out [] (x8_1 : Int) (of_decide_eq_true (by first | (with_reducible assumption) | assumption)) (by have h_ : (x8_1 : Int) < ((x7_1.length : Int) : Int) := of_decide_eq_true (by first | (with_reducible assumption) | assumption);first | exact h_ | (have e_ := (Kd.S_reads' HO_7.out).1;omega) | simpa using h_);obtain ⟨ve19_0,rfl,ge19_0⟩ := hM19;have HP19 := Kd.S_seg hH19 (of_decide_eq_true (by first | (with_reducible assumption) | assumption)) (by have h_ : (x8_1 : Int) < ((x7_1.length : Int) : Int) := of_decide_eq_true (by first | (with_reducible assumption) | assumption);first | exact h_ | (have e_ := (Kd.S_reads' HO_7.out).1;omega) | simpa using h_) (seg := [v105]) (j := 0) (show 1 ≤ 1 from by decide) (x' := y104) (Kd.M_row (Kd.R_mono (Kd.R_tight rfl (Kd.R_mono (ok' := fun k_ => ((fun _ => True)) k_ ∧ k_ ≠ go16) (Kd.R_apart' (HO106.out) (Kd.S_typed HO_7.out) (by decide)) (fun k_ hk => ⟨trivial,fun e_ => (hk.2) (by rw [e_];rfl)⟩))) (fun _ h_ => Or.inr (h_)))) (fun _ hk => hk) (fun k_ hk_ => ((Kd.R_mono (ok' := fun k_ => ((fun _ => True)) k_ ∧ k_ ≠ go16) (Kd.R_apart' (HO106.out) (Kd.S_typed HO_7.out) (by decide)) (fun k_ hk => ⟨trivial,fun e_ => (hk.2) (by rw [e_];rfl)⟩))).1 k_ hk_.symm);have hx19_0 := hcc19 0 _ rfl;(try simp only [show ((Kd.slice 2 (Kd.int .i64))).sz = 1 from rfl,Nat.mul_one,Nat.add_zero] at hx19_0);have hf19_0 := hfr19 0;(try simp only [show ((Kd.slice 2 (Kd.int .i64))).sz = 1 from rfl,Nat.mul_one,Nat.add_zero] at hf19_0);(clear hcl19 hcc19 hfr19 hoki19 hH19;(try clear hM19));(try simp only [show ((Kd.slice 2 (Kd.int .i64))).sz = 1 from rfl,Nat.mul_one,Nat.add_zero] at HP19)) | ((with_reducible refine gate_store (t := 37) (p := 26) rfl ?_);refine store_event (t := 37) (p := 26) (v := ?vo_w20) (w1 := (w17.setCell ⟨go16,(x8_1 : Int).toNat,none⟩ (v105))) ?hg ?ho ?hn ?hr ?_;(case ho => rfl);(case hg => rfl);(case hn => rfl);(case hr => (try (obtain ⟨A_,c_,e_⟩ := Kd.R_slice HO106.out;subst e_));first | (go_simp;done) | (go_simp;rfl));intro w20 hw;have hg : w17.grownBy w20 (some go16) := (by rw [hw];exact HP19.2);have hp_ : Kd.S (Kd.slice 2 (Kd.int .i64)) 37 w20 w.heap.size (fun _ => True) (.slice (some ⟨go16,0,none⟩) x7_1.length co16) y107 := (by rw [hw,Ny107.out];exact HP19.1);clear HP19;have n0_ := Aside0.mk (hp_);have n1_ := Aside0.mk (blk_grown (g := b2) (o := .cells #[.slice A2 l2.length c2] 26 (0,0)) (by (with_reducible repeat (first | refine blk_drewN ?_ _ | refine blk_drew ?_ | refine blk_alloc ?_ _));exact BK2.out) hg (Kd.S_ne HO_7.out BK2.out (by decide)));have n2_ := Aside0.mk (blk_grown (g := b3) (o := .cells #[.slice A3 l3.length c3] 26 (0,0)) (by (with_reducible repeat (first | refine blk_drewN ?_ _ | refine blk_drew ?_ | refine blk_alloc ?_ _));exact BK3.out) hg (Kd.S_ne HO_7.out BK3.out (by decide)));have n3_ := Aside0.mk ((by rw [hw];exact below_set (HB.out) GB16.out : Below w.heap.size w w20));clear HO_7;clear BK2;clear BK3;clear HB;clear HO106;have HO_7 := n0_;have BK2 := n1_;have BK3 := n2_;have HB := n3_;clear n0_ n1_ n2_ n3_;clear hg hw hp_))
          go_loopg [9] k1 (fun kq v9 w' => ∃ (x7_2 : List (List Int)) (x9_2 : Int),v9 = .int .i64 x9_2 ∧ Aside0 (impl_table__impl_faults_1.l1 kq l1 x7_2 x8_1 x9_2 l2 l3 = some r) ∧ Aside0 (kq ≤ k1) ∧ Aside0 (Kd.S (Kd.slice 2 (Kd.int .i64)) 37 w' w.heap.size (fun _ => True) (.slice (some ⟨go16,0,none⟩) x7_1.length co16) x7_2) ∧ Aside0 (w'.heap[b2]? = some (.cells #[(.slice A2 l2.length c2)] 26 (0,0))) ∧ Aside0 (w'.heap[b3]? = some (.cells #[(.slice A3 l3.length c3)] 26 (0,0))) ∧ Aside0 (Below w.heap.size w w'))
          case atStart => exact ⟨(y107),((l1.length : Int)),(by first | rfl | (simp only [IntKind.wrap_i64,wrap64];done) | (simp;done) | (simp [*];done)),H',⟨Nat.le_refl _⟩,⟨by (with_reducible repeat (first | apply Kd.S_alloc | apply Kd.S_drewN | apply Kd.S_drew));exact HO_7.out⟩,⟨by (with_reducible repeat (first | refine blk_drewN ?_ _ | refine blk_drew ?_ | refine blk_alloc ?_ _));exact BK2.out⟩,⟨by (with_reducible repeat (first | refine blk_drewN ?_ _ | refine blk_drew ?_ | refine blk_alloc ?_ _));exact BK3.out⟩,⟨by repeat (first | (with_reducible first | exact HB.out | apply below_alloc | apply pw_below_drewN | apply below_drew1 | refine below_set ?_ GE2.out | refine below_set ?_ GE3.out) | exact HB.out)⟩⟩
          case round =>
           clear H';(try clear c1);(try clear p1);(try clear q1);(try clear hx1);(try clear c2);(try clear p2);(try clear c3);(try clear c6);(try clear c6b0);(try clear c6b1);(try clear p6);(try clear c7);(try clear c7b0);(try clear c7b1);(try clear c10);(try clear c10b0);(try clear c12);(try clear c12b0);(try clear c12b1);(try clear c13);(try clear c13b0);(try clear c13b1);(try clear c14);(try clear c14b0);(try clear c15);(try clear c15b0);(try clear c16);(try clear p16);(try clear q16);(try clear hx16);(try clear hf16);(try clear c19);(try clear hx19);(try clear hf19);(try clear hx16_0);(try clear hx19_0);(try clear p16);(try clear p2);(try clear p6);(try clear q16);obtain ⟨x7_2,x9_2,rfl,HA,HK2,HO_7,BK2,BK3,HB⟩ := hrel;have hl7_2 := (Kd.S_reads' HO_7.out).1;rw [hl7_2] at HO_7;(try simp only [hl7_2]);(try simp only [hl7_2] at BK2);(try simp only [hl7_2] at BK3)
           cases gk with
           | zero => exact absurd HA.out (by simp [impl_table__impl_faults_1.l1])
           | succ k2 =>
            have H := HA.out;clear HA;simp only [impl_table__impl_faults_1.l1] at H
            by_cases c21 : x9_2 ≥ 0
            ·rw [if_pos c21] at H;have c21b0 : decide (0 ≤ x9_2) = true := decide_eq_true c21;clear c21
             by_cases c22 : 0 ≤ x8_1
             ·rw [if_pos c22] at H;have c22b0 : decide (0 ≤ x8_1) = true := decide_eq_true c22;clear c22
              by_cases c23 : x8_1 < (x7_2.length : Int)
              ·rw [if_pos c23] at H;have c23b0 : decide (x8_1 < (x7_2.length : Int)) = true := decide_eq_true c23;clear c23;replace H := Option.bind_eq_some_iff.mp H;obtain ⟨t109,A240,H⟩ := H;replace H : (if 0 ≤ x9_2 then (if x9_2 < ((rd_L6 x7_2 x8_1).length : Int) then (impl_table__impl_faults_1.l1 k2 l1 (x7_2.set (x8_1 : Int).toNat ((rd_L6 x7_2 x8_1).set (x9_2 : Int).toNat t109)) x8_1 (wrap64 (x9_2 - 1)) l2 l3) else (none)) else (none)) = some r := H;have A24 := Aside0.mk A240;clear A240
               by_cases c25 : 0 ≤ x9_2
               ·rw [if_pos c25] at H;have c25b0 : decide (0 ≤ x9_2) = true := decide_eq_true c25;clear c25
                by_cases c26 : x9_2 < ((rd_L6 x7_2 x8_1).length : Int)
                ·rw [if_pos c26] at H;have c26b0 : decide (x9_2 < ((rd_L6 x7_2 x8_1).length : Int)) = true := decide_eq_true c26;clear c26;obtain ⟨y110,hy110⟩ : ∃ y_ : List Int,y_ = ((rd_L6 x7_2 x8_1).set (x9_2 : Int).toNat t109) := ⟨_,rfl⟩
                 replace H : (impl_table__impl_faults_1.l1 k2 l1 (x7_2.set (x8_1 : Int).toNat y110) x8_1 (wrap64 (x9_2 - 1)) l2 l3) = some r := by first | (rw [hy110];with_reducible exact H) | (have H2_ := (Option.bind_some _ _).symm.trans H;rw [hy110];with_reducible exact H2_) | (have H2_ := (Option.bind_some _ _).symm.trans H;with_reducible exact H2_) | with_reducible exact H | (rw [hy110];exact H) | exact H
                 have Ny110 := Aside0.mk hy110;clear hy110;obtain ⟨y112,hy112⟩ : ∃ y_ : List (List Int),y_ = (x7_2.set (x8_1 : Int).toNat y110) := ⟨_,rfl⟩
                 replace H : (impl_table__impl_faults_1.l1 k2 l1 y112 x8_1 (wrap64 (x9_2 - 1)) l2 l3) = some r := by first | (rw [hy112];with_reducible exact H) | (have H2_ := (Option.bind_some _ _).symm.trans H;rw [hy112];with_reducible exact H2_) | (have H2_ := (Option.bind_some _ _).symm.trans H;with_reducible exact H2_) | with_reducible exact H | (rw [hy112];exact H) | exact H
                 have Ny112 := Aside0.mk hy112;clear hy112;have H' := Aside0.mk H;clear H;(try go_wp2);have n0_ := Aside0.mk (Kd.S_drew HO_7.out);have n1_ := Aside0.mk (blk_drew BK2.out);have n2_ := Aside0.mk (blk_drew BK3.out);have n3_ := Aside0.mk (below_drew1 HB.out);clear HO_7;clear BK2;clear BK3;clear HB;have HO_7 := n0_;have BK2 := n1_;have BK3 := n2_;have HB := n3_;clear n0_ n1_ n2_ n3_;have p108 : 0 ≤ (x8_1 : Int) := of_decide_eq_true (by first | (with_reducible assumption) | assumption);have q108 : x8_1 < (x7_2.length : Int) := of_decide_eq_true (by first | (with_reducible assumption) | assumption);obtain ⟨ad108,A108_0,c108_0,e108,hx108_0,hl108_0,hi108_0⟩ := at_L6 (Kd.S_reads' HO_7.out).2.2 x8_1 p108 q108;obtain rfl : (⟨go16,0,none⟩ : Addr) = ad108 := (by injection e108);obtain ⟨ce108,hce108,hMe108,hcc108⟩ := Kd.S_get HO_7.out [] x8_1 p108 (by first | exact q108 | exact of_decide_eq_true (by first | (with_reducible assumption) | assumption) | (have e_ := (Kd.S_reads' HO_7.out).1;omega));obtain ⟨ve108_0,rfl,ge108_0⟩ := hMe108;have hv108_0 := hcc108 0 _ rfl;rw [Nat.add_zero,show ((Kd.slice 2 (Kd.int .i64))).sz = 1 from rfl,Nat.mul_one] at hv108_0;replace hv108_0 := Option.some.inj (hv108_0.symm.trans hx108_0);rw [hv108_0] at ge108_0;have HL108_0 := Aside0.mk (show Kd.R (Kd.int .i64) 2 _ _ _ _ (rd_L6 x7_2 x8_1) from ge108_0);clear hv108_0 ge108_0;have HX108_0 := Aside0.mk hx108_0;clear hcc108 hce108;(first | simp only [add_plain] at hx108_0 | simp only [add_at] at hx108_0 | simp only [Addr.add,Nat.zero_add] at hx108_0 | skip);have HR108_0 := Aside0.mk hi108_0;have HC108_0 := Aside0.mk hl108_0;clear hi108_0 hl108_0;replace p108 := eq_true p108;replace q108 := eq_true q108;refine start_ (n := 12) (S := fun w' => w'.cell? ⟨go16,(x8_1).toNat,none⟩ = some (.slice A108_0 (rd_L6 x7_2 x8_1).length c108_0)) (ds := [11]) #[false,false,false,false,false,false,false,false,false,false,false,false] (by kernel_rfl) rfl rfl (hx108_0) (fun hHeld => ?_);refine with_tabW impl_table__impl_faults_1.tab9 impl_table__impl_faults_1.bits9 (fun HT_ HW_ => ?_);generalize wr.drew = w28 at HO_7 BK2 BK3 HB HL108_0 HR108_0 HX108_0 hx108_0 hHeld ⊢;refine pure_ (i := 0) (N := some 33) (v := ?_) (a' := ?_) #[true,false,false,false,false,false,false,false,false,false,false,false] rfl rfl (any_of HT_.out (by kernel_rfl)) (fun _ _ _ h => h) (Or.inl ⟨by rfl,?_⟩) ?_ ?_;rotate_left
                 ·intro w';go_simp;with_reducible rfl
                 rotate_left
                 ·simp only [Act.put,List.setIfInBounds_toArray,List.set_cons_zero,List.set_cons_succ,i64_w,i32_w];rfl
                 refine pure_ (i := 1) (N := some 34) (v := ?_) (a' := ?_) #[true,true,false,false,false,false,false,false,false,false,false,false] rfl rfl (any_of HT_.out (by kernel_rfl)) (fun _ _ _ h => h) (Or.inl ⟨by rfl,?_⟩) ?_ ?_;rotate_left
                 ·intro w';go_simp;with_reducible rfl
                 rotate_left
                 ·simp only [Act.put,List.setIfInBounds_toArray,List.set_cons_zero,List.set_cons_succ,i64_w,i32_w];rfl
                 refine pure_ (i := 2) (N := some 35) (v := ?_) (a' := ?_) #[true,true,true,false,false,false,false,false,false,false,false,false] rfl rfl (any_of HT_.out (by kernel_rfl)) (fun _ _ _ h => h) (Or.inl ⟨by rfl,?_⟩) ?_ ?_;rotate_left
                 ·intro w';go_simp;with_reducible rfl
                 rotate_left
                 ·simp only [Act.put,List.setIfInBounds_toArray,List.set_cons_zero,List.set_cons_succ,i64_w,i32_w];rfl
                 refine pure_ (i := 4) (N := some 37) (v := ?_) (a' := ?_) #[true,true,true,false,true,false,false,false,false,false,false,false] rfl rfl (any_of HT_.out (by kernel_rfl)) (fun _ _ _ h => h) (Or.inl ⟨by rfl,?_⟩) ?_ ?_;rotate_left
                 ·intro w';go_simp;with_reducible rfl
                 rotate_left
                 ·simp only [Act.put,List.setIfInBounds_toArray,List.set_cons_zero,List.set_cons_succ,i64_w,i32_w];rfl
                 refine pure_ (i := 5) (N := some 38) (v := ?_) (a' := ?_) #[true,true,true,false,true,true,false,false,false,false,false,false] rfl rfl (any_of HT_.out (by kernel_rfl)) (fun _ _ _ h => h) (Or.inl ⟨by rfl,?_⟩) ?_ ?_;rotate_left
                 ·intro w';go_simp;with_reducible rfl
                 rotate_left
                 ·simp only [Act.put,List.setIfInBounds_toArray,List.set_cons_zero,List.set_cons_succ,i64_w,i32_w];rfl
                 refine pure_ (i := 6) (N := some 39) (v := ?_) (a' := ?_) #[true,true,true,false,true,true,true,false,false,false,false,false] rfl rfl (any_of HT_.out (by kernel_rfl)) (fun _ _ _ h => h) (Or.inl ⟨by rfl,?_⟩) ?_ ?_;rotate_left
                 ·intro w';go_simp;with_reducible rfl
                 rotate_left
                 ·simp only [Act.put,List.setIfInBounds_toArray,List.set_cons_zero,List.set_cons_succ,i64_w,i32_w];rfl
                 refine pure_ (i := 7) (N := some 40) (v := ?_) (a' := ?_) #[true,true,true,false,true,true,true,true,false,false,false,false] rfl rfl (any_of HT_.out (by kernel_rfl)) (fun _ _ _ h => h) (Or.inl ⟨by rfl,?_⟩) ?_ ?_;rotate_left
                 ·intro w';go_simp;with_reducible rfl
                 rotate_left
                 ·simp only [Act.put,List.setIfInBounds_toArray,List.set_cons_zero,List.set_cons_succ,i64_w,i32_w];rfl
                 refine pure_ (i := 8) (N := some 41) (v := ?_) (a' := ?_) #[true,true,true,false,true,true,true,true,true,false,false,false] rfl rfl (any_of HT_.out (by kernel_rfl)) (fun _ _ _ h => h) (Or.inl ⟨by rfl,?_⟩) ?_ ?_;rotate_left
                 ·intro w';go_simp;with_reducible rfl
                 rotate_left
                 ·simp only [Act.put,List.setIfInBounds_toArray,List.set_cons_zero,List.set_cons_succ,i64_w,i32_w];rfl
                 refine take_ (i := 3) (N := some 36) (v := ?_) (a' := ?_) #[true,true,true,true,true,true,true,true,true,false,false,false] rfl rfl (take_ofW HT_.out HW_.out (by kernel_rfl)) (fun _ _ _ h => h) (Or.inl ⟨by rfl,?_⟩) hHeld ?_ ?_;rotate_left
                 ·intro w' s0;go_simp;with_reducible rfl
                 rotate_left
                 ·simp only [Act.put,List.setIfInBounds_toArray,List.set_cons_zero,List.set_cons_succ,i64_w,i32_w];rfl
                 refine one_ (i := 9) (N := some 42) #[true,true,true,true,true,true,true,true,true,true,false,false] rfl rfl (one_of HT_.out (by kernel_rfl)) (by decide) (fun K hK => ?_);refine goesD_ Try.func120 (by kernel_rfl) rfl #[.pointer (some ⟨b2,0,none⟩),.pointer (some ⟨b3,0,none⟩)] #[.slice (some ⟨go16,0,none⟩) x7_2.length co16,.int .i64 x8_1,.int .i64 x9_2,.pointer (some ⟨b2,0,none⟩),.pointer (some ⟨b3,0,none⟩)] (by rfl) rfl rfl rfl (by (try simp only [List.map_toArray,List.map_cons,List.map_nil]);first | done | rfl | (simp only [List.length_drop,List.length_take];rfl)) ?_
                 with_reducible refine (impl_faults_1.calls _ _ x7_2 x8_1 x9_2 A2 c2 l2 b2 A3 c3 l3 b3 t109 _ ?side1 ?side2 ?side3 ?side4 ?side5 ?side6 ?side7 ?side8 ?side9 A24.out).mono ?_
                 (case side1 => repeat (first | exact (Kd.S_reads' HO_7.out).2.2 | (with_reducible refine Kd.C_alloc ?_ _) | (with_reducible refine Kd.C_drewN ?_ _) | (with_reducible refine Kd.C_drew ?_)));(case side2 => exact (Kd.S_reads' HO_7.out).2.1);(case side3 => repeat (first | exact (Kd.C_below HR2.out HB.out) | (with_reducible refine Kd.C_alloc ?_ _) | (with_reducible refine Kd.C_drewN ?_ _) | (with_reducible refine Kd.C_drew ?_)));(case side4 => exact HC2.out);(case side5 => repeat (first | exact (Kd.C_below HR3.out HB.out) | (with_reducible refine Kd.C_alloc ?_ _) | (with_reducible refine Kd.C_drewN ?_ _) | (with_reducible refine Kd.C_drew ?_)));(case side6 => exact HC3.out);(case side7 => (with_reducible repeat (first | refine blk_drewN ?_ _ | refine blk_drew ?_ | refine blk_alloc ?_ _));exact BK2.out);(case side8 => (with_reducible repeat (first | refine blk_drewN ?_ _ | refine blk_drew ?_ | refine blk_alloc ?_ _));exact BK3.out);(case side9 => exact NB2_3.out)
                 rintro e w29 ⟨rfl,hb⟩
                 have HS0_ := (hb.cell (World.block_lt_of_cell? _ _ (hHeld))).trans (hHeld);refine ⟨_,rfl,?_⟩;have n0_ := Aside0.mk (Kd.S_below (by (with_reducible repeat (first | apply Kd.S_alloc | apply Kd.S_drewN | apply Kd.S_drew));exact HO_7.out) hb);have n1_ := Aside0.mk (Kd.R_below (by (with_reducible repeat (first | apply Kd.R_alloc | apply Kd.R_drewN | apply Kd.R_drew));exact HL108_0.out) hb);have n2_ := Aside0.mk (blk_below (g := b2) (o := .cells #[.slice A2 l2.length c2] 26 (0,0)) (by (with_reducible repeat (first | refine blk_drewN ?_ _ | refine blk_drew ?_ | refine blk_alloc ?_ _));exact BK2.out) hb);have n3_ := Aside0.mk (blk_below (g := b3) (o := .cells #[.slice A3 l3.length c3] 26 (0,0)) (by (with_reducible repeat (first | refine blk_drewN ?_ _ | refine blk_drew ?_ | refine blk_alloc ?_ _));exact BK3.out) hb);have n4_ := Aside0.mk (Kd.C_below (by repeat (first | (with_reducible exact HR108_0.out) | (with_reducible refine Kd.C_alloc ?_ _) | (with_reducible refine Kd.C_drewN ?_ _) | (with_reducible refine Kd.C_drew ?_) | exact HR108_0.out)) hb);have n5_ := Aside0.mk (pw_cell_below hb HX108_0.out);have n6_ := Aside0.mk (below_step (by repeat (first | (with_reducible first | exact HB.out | apply below_alloc | apply pw_below_drewN | apply below_drew1 | refine below_set ?_ GE2.out | refine below_set ?_ GE3.out) | exact HB.out)) hb);clear HO_7;clear HL108_0;clear BK2;clear BK3;clear HR108_0;clear HX108_0;clear HB;have HO_7 := n0_;have HL108_0 := n1_;have BK2 := n2_;have BK3 := n3_;have HR108_0 := n4_;have HX108_0 := n5_;have HB := n6_;clear n0_ n1_ n2_ n3_ n4_ n5_ n6_;(try clear hb);(try clear hb2);(try clear hk);(try clear hi);have p27 : 0 ≤ (x9_2 : Int) := of_decide_eq_true (by first | (with_reducible assumption) | assumption);have q27 : (x9_2 : Int) < (((rd_L6 x7_2 x8_1).length : Int) : Int) := of_decide_eq_true (by first | (with_reducible assumption) | assumption);obtain ⟨go27,co27,eo27,gb27,gl27,cl27,HG27⟩ := Kd.R_form HL108_0.out (by omega);(first | cases eo27 | (injection eo27 with ea_ en_ ec_;(first | subst ea_ | (injection ea_ with ea_;subst ea_));subst ec_;clear en_));have GB27 := Aside0.mk gb27;have GG27 := Aside0.mk HG27;clear gb27 gl27 HG27;obtain ⟨hx27_0,hf27_0⟩ := Kd.R_celln 0 HL108_0.out (x9_2 : Int) p27 q27;replace p27 := eq_true p27;replace q27 := eq_true q27;have hq30 : (x8_1 : Int) < (x7_2.length : Int) := (by have h_ : (x8_1 : Int) < ((x7_2.length : Int) : Int) := of_decide_eq_true (by first | (with_reducible assumption) | assumption);first | exact h_ | (have e_ := (Kd.S_reads' HO_7.out).1;omega) | simpa only [List.length_set,List.length_set] using h_);obtain ⟨oki30,ce30,hcl30,hM30,hcc30,hok30,hbk30⟩ := Kd.S_borrow HO_7.out [] (x8_1 : Int) (of_decide_eq_true (by first | (with_reducible assumption) | assumption)) hq30;obtain ⟨ve30_0,rfl,ge30_0⟩ := hM30;have hv30 := hcc30 0 _ rfl;rw [Nat.add_zero,show ((Kd.slice 2 (Kd.int .i64))).sz = 1 from rfl,Nat.mul_one] at hv30;replace hv30 := Option.some.inj (hv30.symm.trans HX108_0.out);subst hv30;clear hcc30 hcl30;replace ge30_0 := (show Kd.R (Kd.int .i64) 2 _ _ _ _ (rd_L6 x7_2 x8_1) from ge30_0);have HP30 := Kd.R_putg ge30_0 (x9_2 : Int) t109;rw [← Ny110.out] at HP30;have HS30 := hbk30 HP30.2 (fun k_ e_ => by injection e_ with e_;subst e_;exact ge30_0.1 _ rfl) (x' := y110) (Kd.M_row HP30.1);rw [← Ny112.out] at HS30;have HQ30 := Aside0.mk HS30;clear HP30 HS30 hbk30 hok30;refine hK.out _ _ (HS0_) (fun hHeld => ?_);clear hK K;refine norm_ (a' := ?_) ?_ ?_;rotate_left
                 ·show Act.put _ (some 42) _ = _
                  simp only [Act.put,List.setIfInBounds_toArray,List.set_cons_zero,List.set_cons_succ,i64_w,i32_w];rfl
                 refine pure_ (i := 10) (N := some 43) (v := ?_) (a' := ?_) #[true,true,true,true,true,true,true,true,true,true,true,false] rfl rfl (any_of HT_.out (by kernel_rfl)) (fun _ _ _ h => h) (Or.inl ⟨by rfl,?_⟩) ?_ ?_;rotate_left
                 ·intro w';go_simp;with_reducible rfl
                 rotate_left
                 ·simp only [Act.put,List.setIfInBounds_toArray,List.set_cons_zero,List.set_cons_succ,i64_w,i32_w];rfl
                 refine last_ (i := 11) (N := none) #[true,true,true,true,true,true,true,true,true,true,true,true] rfl rfl (one_of HT_.out (by kernel_rfl)) (by decide) (fun K hK => ?_);refine skip_ (w1 := ?_) (by rfl) rfl ?_ ?_;rotate_left
                 ·go_simp;rfl
                 refine hK.out _ _ ?_;clear hK K;refine done_ (done_of HT_.out (by kernel_rfl)) ?_;(try go_wp2);(try simp only [← hl7_2])
                 go_roundg k2
                 case measure => have := HK1.out;have := HK2.out;omega
                 case rel => exact ⟨(y112),(wrap64 (x9_2 - 1)),(by first | rfl | (simp only [IntKind.wrap_i64,wrap64];done) | (simp;done) | (simp [*];done)),H',⟨by have := HK1.out;have := HK2.out;omega⟩,⟨by (try simp only [hl7_2]);(with_reducible repeat (first | apply Kd.S_alloc | apply Kd.S_drewN | apply Kd.S_drew));exact HQ30.out⟩,⟨by (try simp only [hl7_2]);(with_reducible repeat (first | refine blk_drewN ?_ _ | refine blk_drew ?_ | refine blk_alloc ?_ _));refine blk_far ?_ (by have h_ := Kd.R_ne HL108_0.out BK2.out (by decide);intro e_;exact h_ (by rw [e_];rfl)) _;(with_reducible repeat (first | refine blk_drewN ?_ _ | refine blk_drew ?_ | refine blk_alloc ?_ _));exact BK2.out⟩,⟨by (try simp only [hl7_2]);(with_reducible repeat (first | refine blk_drewN ?_ _ | refine blk_drew ?_ | refine blk_alloc ?_ _));refine blk_far ?_ (by have h_ := Kd.R_ne HL108_0.out BK3.out (by decide);intro e_;exact h_ (by rw [e_];rfl)) _;(with_reducible repeat (first | refine blk_drewN ?_ _ | refine blk_drew ?_ | refine blk_alloc ?_ _));exact BK3.out⟩,⟨by repeat (first | (with_reducible first | exact HB.out | apply below_alloc | apply pw_below_drewN | apply below_drew1 | refine below_set ?_ GB27.out | refine below_set ?_ GE2.out | refine below_set ?_ GE3.out) | exact HB.out)⟩⟩
                ·rw [if_neg c26] at H;exact absurd H (by simp)
               ·rw [if_neg c25] at H;exact absurd H (by simp)
              ·rw [if_neg c23] at H;exact absurd H (by simp)
             ·rw [if_neg c22] at H;exact absurd H (by simp)
            ·rw [if_neg c21] at H;have c21b0 : decide (0 ≤ x9_2) = false := decide_eq_false c21;clear c21;have H' := Aside0.mk H;clear H
             go_wp2
             (try simp only [← hl7_2])
             go_roundg k2
             case measure => have := HK1.out;have := HK2.out;omega
             case rel => exact ⟨(x7_2),(wrap64 (x8_1 - 1)),(by first | rfl | (simp only [IntKind.wrap_i64,wrap64];done) | (simp;done) | (simp [*];done)),H',⟨by have := HK1.out;have := HK2.out;omega⟩,⟨by (try simp only [hl7_2]);(with_reducible repeat (first | apply Kd.S_alloc | apply Kd.S_drewN | apply Kd.S_drew));exact HO_7.out⟩,⟨by (try simp only [hl7_2]);(with_reducible repeat (first | refine blk_drewN ?_ _ | refine blk_drew ?_ | refine blk_alloc ?_ _));exact BK2.out⟩,⟨by (try simp only [hl7_2]);(with_reducible repeat (first | refine blk_drewN ?_ _ | refine blk_drew ?_ | refine blk_alloc ?_ _));exact BK3.out⟩,⟨by repeat (first | (with_reducible first | exact HB.out | apply below_alloc | apply pw_below_drewN | apply below_drew1 | refine below_set ?_ GE2.out | refine below_set ?_ GE3.out) | exact HB.out)⟩⟩
         ·rw [if_neg c15] at H;exact absurd H (by simp)
        ·rw [if_neg c14] at H;exact absurd H (by simp)
       ·rw [if_neg c13] at H;exact absurd H (by simp)
      ·rw [if_neg c12] at H;exact absurd H (by simp)
     ·rw [if_neg c10] at H;have c10b0 : decide (0 ≤ x8_1) = false := decide_eq_false c10;clear c10;obtain rfl := Option.some.inj H
      go_wp2
      go_ret
      exact ⟨_,by first | rfl | (simp [errW_none,errW_some,IntKind.wrap_i64,wrap64];done) | (simp [errW_none,errW_some] <;> rfl) | (simp only [← hji5];first | rfl | (simp [errW_none,errW_some] <;> rfl)) | (simp [*,errW_none,errW_some] <;> rfl),by (with_reducible repeat (first | apply Kd.S_alloc | apply Kd.S_drewN | apply Kd.S_drew));exact HO_7.out,by repeat (first | (with_reducible first | exact HB.out | apply below_alloc | apply pw_below_drewN | apply below_drew1 | refine below_set ?_ GE2.out | refine below_set ?_ GE3.out) | exact HB.out)⟩
  ·rw [if_neg c7] at H;exact absurd H (by simp)
 ·rw [if_neg c6] at H;exact absurd H (by simp)
end Go.Proofs.Ytidkniacmcbgiaa.G
end

section
namespace Go.Proofs.Ytidkniacmcbgiaa.G
open Go.RowKit Go.Proofs.YtidkniacmcbgiaaW.PrintWords Go.Proofs.YtidkniacmcbgiaaW.PrintLast Go.Proofs.YtidkniacmcbgiaaW.PrintMore
attribute [local go_sem] max2_int min2_int max_two min_two max_three min_three max_four min_four
set_option linter.unusedVariables false
set_option linter.unusedSimpArgs false
def impl_faults.f (k : Nat) (l0 : List (S73)) (l1 : List (S73)) : Option ((List (List Int))) := (impl_table__impl_faults_1.f k l0 l1 l0 l1).bind fun t103 => (some t103)
set_option maxHeartbeats 8000000 in
set_option maxRecDepth 100000 in
theorem impl_faults.calls (k : Nat) (A0 : Option Addr) (c0 : Nat) (l0 : List (S73)) (A1 : Option Addr) (c1 : Nat) (l1 : List (S73)) (r : List (List Int)) (w : World) (hr0 : Kd.C k73 w A0 l0.length l0) (hc0 : l0.length ≤ c0) (hr1 : Kd.C k73 w A1 l1.length l1) (hc1 : l1.length ≤ c1) (h : impl_faults.f k l0 l1 = some r) :
  Calls Try.prog 87 #[.slice A0 l0.length c0,.slice A1 l1.length c1] w fun e w' => ∃ v0_ : Value,e = .returned (v0_) ∧ Kd.S (Kd.slice 2 (Kd.int .i64)) 37 w' w.heap.size (fun _ => True) v0_ r ∧ Below w.heap.size w w' := by
 have HR0 := Aside0.mk hr0;have HC0 := Aside0.mk hc0;clear hr0 hc0;have HR1 := Aside0.mk hr1;have HC1 := Aside0.mk hc1;clear hr1 hc1;have HB := Aside0.mk (Below.refl w.heap.size w);have H : ((impl_table__impl_faults_1.f k l0 l1 l0 l1).bind fun t103 => (some t103)) = some r := h;clear h;replace H := Option.bind_eq_some_iff.mp H;obtain ⟨t103,A30,H⟩ := H;replace H : (some t103) = some r := H;have A3 := Aside0.mk A30;clear A30;obtain rfl := Option.some.inj H
 go_enter Try.func87,Try.ntmps87
 go_wp2_with (first | ((with_reducible refine gate_dst (N := 2) rfl ?_);refine box_event ?hg (N := 2) ?hd (cs := #[.slice A0 l0.length c0]) (t := 26) ?hr ?_;(case hd => rfl);(case hg => rfl);(case hr => first | (go_simp;done) | (go_simp;rfl));intro gb101 hg w4 hbox hb;have n0_ := Aside0.mk (below_step (by repeat (first | (with_reducible first | exact HB.out | apply below_alloc | apply pw_below_drewN | apply below_drew1) | exact HB.out)) hb);have n1_ := Aside0.mk (hbox);have n2_ := Aside0.mk ((by rw [hg];exact (below_size (by repeat (first | (with_reducible first | exact HB.out | apply below_alloc | apply pw_below_drewN | apply below_drew1) | exact HB.out))) : w.heap.size ≤ gb101));have n3_ := Aside0.mk ((by rw [hg];exact (below_size (by repeat (first | (with_reducible first | exact HB.out | apply below_alloc | apply pw_below_drewN | apply below_drew1) | exact HB.out))) : w.heap.size ≤ gb101));clear HB;have HB := n0_;have BK101 := n1_;have GW101 := n2_;have GE101 := n3_;clear n0_ n1_ n2_ n3_;clear hb hbox hg) | ((with_reducible refine gate_dst (N := 3) rfl ?_);refine box_event ?hg (N := 3) ?hd (cs := #[.slice A1 l1.length c1]) (t := 26) ?hr ?_;(case hd => rfl);(case hg => rfl);(case hr => first | (go_simp;done) | (go_simp;rfl));intro gb102 hg w5 hbox hb;have n0_ := Aside0.mk (blk_below (g := gb101) (o := .cells #[.slice A0 l0.length c0] 26 (0,0)) (by (with_reducible repeat (first | refine blk_drewN ?_ _ | refine blk_drew ?_ | refine blk_alloc ?_ _));exact BK101.out) hb);have n1_ := Aside0.mk (below_step (by repeat (first | (with_reducible first | exact HB.out | apply below_alloc | apply pw_below_drewN | apply below_drew1 | refine below_set ?_ GE101.out) | exact HB.out)) hb);have n2_ := Aside0.mk (hbox);have n3_ := Aside0.mk ((by rw [hg];exact (below_size (by repeat (first | (with_reducible first | exact HB.out | apply below_alloc | apply pw_below_drewN | apply below_drew1 | refine below_set ?_ GE101.out) | exact HB.out))) : w.heap.size ≤ gb102));have n4_ := Aside0.mk ((by rw [hg];exact (below_size (by repeat (first | (with_reducible first | exact HB.out | apply below_alloc | apply pw_below_drewN | apply below_drew1 | refine below_set ?_ GE101.out) | exact HB.out))) : w.heap.size ≤ gb102));have n5_ := Aside0.mk ((by rw [hg];exact Nat.ne_of_lt (blk_lt (g := gb101) (o := .cells #[.slice A0 l0.length c0] 26 (0,0)) (by (with_reducible repeat (first | refine blk_drewN ?_ _ | refine blk_drew ?_ | refine blk_alloc ?_ _));exact BK101.out)) : gb101 ≠ gb102));have n6_ := Aside0.mk ((by rw [hg];exact Nat.ne_of_gt (blk_lt (g := gb101) (o := .cells #[.slice A0 l0.length c0] 26 (0,0)) (by (with_reducible repeat (first | refine blk_drewN ?_ _ | refine blk_drew ?_ | refine blk_alloc ?_ _));exact BK101.out)) : gb102 ≠ gb101));clear BK101;clear HB;have BK101 := n0_;have HB := n1_;have BK102 := n2_;have GW102 := n3_;have GE102 := n4_;have NB101_102 := n5_;have NB102_101 := n6_;clear n0_ n1_ n2_ n3_ n4_ n5_ n6_;clear hb hbox hg;have hnb6 := NB101_102.out;have hnc6 := NB102_101.out;have hcz7_0 : w5.cell? ⟨gb101,0,none⟩ = some (.slice A0 l0.length c0) := (blk_cell BK101.out 0).trans rfl;have hfz7_0 := blk_frozen BK101.out 0;have hcz8_0 : w5.cell? ⟨gb102,0,none⟩ = some (.slice A1 l1.length c1) := (blk_cell BK102.out 0).trans rfl;have hfz8_0 := blk_frozen BK102.out 0) | ((with_reducible refine gate_callee (f := 108) rfl ?_);refine goesL_ (some 8) rfl rfl Try.func108 (by kernel_rfl) rfl #[.slice A0 l0.length c0,.slice A1 l1.length c1,.func (.func 120) #[] #[.pointer (some ⟨gb101,0,none⟩),.pointer (some ⟨gb102,0,none⟩)]] rfl (by (try simp only [List.map_toArray,List.map_cons,List.map_nil]);first | done | rfl | (simp only [List.length_drop,List.length_take];rfl)) ?_;(with_reducible refine (impl_table__impl_faults_1.calls k _ _ l0 _ _ l1 A0 c0 l0 gb101 A1 c1 l1 gb102 t103 _ ?side1 ?side2 ?side3 ?side4 ?side5 ?side6 ?side7 ?side8 ?side9 ?side10 ?side11 A3.out).mono ?_);(case side1 => repeat (first | exact (Kd.C_below HR0.out HB.out) | (with_reducible refine Kd.C_alloc ?_ _) | (with_reducible refine Kd.C_drewN ?_ _) | (with_reducible refine Kd.C_drew ?_)));(case side2 => exact HC0.out);(case side3 => repeat (first | exact (Kd.C_below HR1.out HB.out) | (with_reducible refine Kd.C_alloc ?_ _) | (with_reducible refine Kd.C_drewN ?_ _) | (with_reducible refine Kd.C_drew ?_)));(case side4 => exact HC1.out);(case side5 => repeat (first | exact (Kd.C_below HR0.out HB.out) | (with_reducible refine Kd.C_alloc ?_ _) | (with_reducible refine Kd.C_drewN ?_ _) | (with_reducible refine Kd.C_drew ?_)));(case side6 => exact HC0.out);(case side7 => repeat (first | exact (Kd.C_below HR1.out HB.out) | (with_reducible refine Kd.C_alloc ?_ _) | (with_reducible refine Kd.C_drewN ?_ _) | (with_reducible refine Kd.C_drew ?_)));(case side8 => exact HC1.out);(case side9 => (with_reducible repeat (first | refine blk_drewN ?_ _ | refine blk_drew ?_ | refine blk_alloc ?_ _));exact BK101.out);(case side10 => (with_reducible repeat (first | refine blk_drewN ?_ _ | refine blk_drew ?_ | refine blk_alloc ?_ _));exact BK102.out);(case side11 => exact NB101_102.out);rintro e w9 ⟨v104,rfl,ho0,hb⟩;refine ⟨_,rfl,?_⟩;have n0_ := Aside0.mk (Kd.S_lower ho0 (below_size (by repeat (first | (with_reducible first | exact HB.out | apply below_alloc | apply pw_below_drewN | apply below_drew1 | refine below_set ?_ GE101.out | refine below_set ?_ GE102.out) | exact HB.out))));have n1_ := Aside0.mk (blk_below (g := gb101) (o := .cells #[.slice A0 l0.length c0] 26 (0,0)) (by (with_reducible repeat (first | refine blk_drewN ?_ _ | refine blk_drew ?_ | refine blk_alloc ?_ _));exact BK101.out) hb);have n2_ := Aside0.mk (blk_below (g := gb102) (o := .cells #[.slice A1 l1.length c1] 26 (0,0)) (by (with_reducible repeat (first | refine blk_drewN ?_ _ | refine blk_drew ?_ | refine blk_alloc ?_ _));exact BK102.out) hb);have n3_ := Aside0.mk (below_step (by repeat (first | (with_reducible first | exact HB.out | apply below_alloc | apply pw_below_drewN | apply below_drew1 | refine below_set ?_ GE101.out | refine below_set ?_ GE102.out) | exact HB.out)) hb);clear BK101;clear BK102;clear HB;have HO105 := n0_;have BK101 := n1_;have BK102 := n2_;have HB := n3_;clear n0_ n1_ n2_ n3_;(try clear hb);(try clear hb2);(try clear hk);(try clear hi);(try clear ho0)))
 go_ret
 exact ⟨_,by first | rfl | (simp [errW_none,errW_some,IntKind.wrap_i64,wrap64];done) | (simp [errW_none,errW_some] <;> rfl) | (simp [*,errW_none,errW_some] <;> rfl),by (with_reducible repeat (first | apply Kd.S_alloc | apply Kd.S_drewN | apply Kd.S_drew));exact HO105.out,by repeat (first | (with_reducible first | exact HB.out | apply below_alloc | apply pw_below_drewN | apply below_drew1 | refine below_set ?_ GE101.out | refine below_set ?_ GE102.out) | exact HB.out)⟩
end Go.Proofs.Ytidkniacmcbgiaa.G
end

section
namespace Go.Proofs.Ytidkniacmcbgiaa.G
open Go.RowKit Go.Proofs.YtidkniacmcbgiaaW.PrintWords Go.Proofs.YtidkniacmcbgiaaW.PrintLast Go.Proofs.YtidkniacmcbgiaaW.PrintMore
attribute [local go_sem] max2_int min2_int max_two min_two max_three min_three max_four min_four
set_option linter.unusedVariables false
set_option linter.unusedSimpArgs false
mutual
def impl_story.l0 : Nat → List (S73) → List (S73) → List (List Int) → List (S100) → Int → Int → Option ((List (S100)))
 | 0,_,_,_,_,_,_ => none
 | k + 1,x0,x1,x5,x6,x7,x8 => if x7 < (x0.length : Int) then (impl_story.j1 k x0 x1 x5 x6 x7 x8 true) else (impl_story.j1 k x0 x1 x5 x6 x7 x8 (decide (x8 < (x1.length : Int))))
def impl_story.j1 : Nat → List (S73) → List (S73) → List (List Int) → List (S100) → Int → Int → Bool → Option ((List (S100)))
 | 0,_,_,_,_,_,_,_ => none
 | k + 1,x0,x1,x5,x6,x7,x8,x25 => if x25 = true then (if x7 < (x0.length : Int) then (impl_story.j2 k x0 x1 x5 x6 x7 x8 false (decide (x8 < (x1.length : Int)))) else (impl_story.j2 k x0 x1 x5 x6 x7 x8 false false)) else (some x6)
def impl_story.j2 : Nat → List (S73) → List (S73) → List (List Int) → List (S100) → Int → Int → Bool → Bool → Option ((List (S100)))
 | 0,_,_,_,_,_,_,_,_ => none
 | k + 1,x0,x1,x5,x6,x7,x8,x9,x35 => if x35 = true then (if 0 ≤ x7 then (if x7 < (x0.length : Int) then (if 0 ≤ x8 then (if x8 < (x1.length : Int) then ((impl_stepFaults.f ((rd_T73 x0 x7).f0) ((rd_T73 x0 x7).f1) ((rd_T73 x0 x7).f2) ((rd_T73 x1 x8).f0) ((rd_T73 x1 x8).f1) ((rd_T73 x1 x8).f2)).bind fun bt109 => (if bt109.2 = true then (if x7 < (x5.length : Int) then (if x8 < ((rd_L6 x5 x7).length : Int) then (if 0 ≤ (wrap64 (x7 + 1)) then (if (wrap64 (x7 + 1)) < (x5.length : Int) then (if 0 ≤ (wrap64 (x8 + 1)) then (if (wrap64 (x8 + 1)) < ((rd_L6 x5 (wrap64 (x7 + 1))).length : Int) then (impl_story.j3 k x0 x1 x5 x6 x7 x8 ((rd (rd_L6 x5 x7) x8) == (wrap64 ((rd (rd_L6 x5 (wrap64 (x7 + 1))) (wrap64 (x8 + 1))) + bt109.1)))) else (none)) else (none)) else (none)) else (none)) else (none)) else (none)) else (impl_story.j3 k x0 x1 x5 x6 x7 x8 false))) else (none)) else (none)) else (none)) else (none)) else (impl_story.j3 k x0 x1 x5 x6 x7 x8 x9)
def impl_story.j3 : Nat → List (S73) → List (S73) → List (List Int) → List (S100) → Int → Int → Bool → Option ((List (S100)))
 | 0,_,_,_,_,_,_,_ => none
 | k + 1,x0,x1,x5,x6,x7,x8,x9 => if x9 = true then (if x6.length < 8796093022208 then (impl_story.l0 k x0 x1 x5 (x6 ++ [(⟨x7,x8⟩ : S100)]) (wrap64 (x7 + 1)) (wrap64 (x8 + 1))) else (none)) else (if x7 < (x0.length : Int) then (if 0 ≤ x7 then (if x7 < (x5.length : Int) then (if 0 ≤ x8 then (if x8 < ((rd_L6 x5 x7).length : Int) then (if 0 ≤ (wrap64 (x7 + 1)) then (if (wrap64 (x7 + 1)) < (x5.length : Int) then (if x8 < ((rd_L6 x5 (wrap64 (x7 + 1))).length : Int) then (if (rd (rd_L6 x5 x7) x8) = (wrap64 ((rd (rd_L6 x5 (wrap64 (x7 + 1))) x8) + 1)) then (if x6.length < 8796093022208 then (impl_story.l0 k x0 x1 x5 (x6 ++ [(⟨x7,(-1)⟩ : S100)]) (wrap64 (x7 + 1)) x8) else (none)) else (if x6.length < 8796093022208 then (impl_story.l0 k x0 x1 x5 (x6 ++ [(⟨(-1),x8⟩ : S100)]) x7 (wrap64 (x8 + 1))) else (none))) else (none)) else (none)) else (none)) else (none)) else (none)) else (none)) else (none)) else (if x6.length < 8796093022208 then (impl_story.l0 k x0 x1 x5 (x6 ++ [(⟨(-1),x8⟩ : S100)]) x7 (wrap64 (x8 + 1))) else (none)))
end
def impl_story.f (k : Nat) (l0 : List (S73)) (l1 : List (S73)) : Option ((List (S100))) := (impl_faults.f k l0 l1).bind fun t101 => (impl_story.l0 k l0 l1 t101 (([] : List (S100))) 0 0)
def impl_story.T5 : Bool × List (List Nat × List Nat) := (true,[([],[]),([],[]),([0,1],[0,1]),([2],[2]),([],[]),([],[]),([4,5],[4,5]),([6],[6]),([3,7],[3,7]),([8],[8]),([9],[9]),([9],[9]),([10,8,0,1,2,3,4,5,6,7,8,9,10],[10]),([11,12,0,1,2,3,4,5,6,7,8,9,10,11,12],[11])])
def impl_story.B5 : List Nat := [0,0,3,7,0,0,48,112,255,511,1023,1023,2047,8191]
theorem impl_story.tab5 : rtab .any (opsOf Try.f111 5) = impl_story.T5 := by kernel_rfl
theorem impl_story.bits5 : waitsOk impl_story.T5.2 impl_story.B5 = true := by kernel_rfl
def impl_story.T6 : Bool × List (List Nat × List Nat) := (true,[([],[]),([0],[0]),([1],[1]),([1],[1]),([2,3,1],[1,2,3]),([4,1],[1,4]),([1],[1]),([5,6,1],[1,5,6]),([7,1],[1,7]),([1],[1]),([1],[1]),([10,1],[1,10]),([9,11,1],[1,9,11]),([12,1],[1,12]),([1],[1]),([14,1],[1,14]),([13,15,1],[1,13,15]),([16,1],[1,16]),([1],[1]),([17,18,1],[1,17,18]),([8,19,1],[1,8,19]),([1,20],[1,20]),([21,1,0,1,2,3,4,5,6,7,8,9,10,11,12,13,14,15,16,17,18,19,20,21],[21])])
def impl_story.B6 : List Nat := [0,1,3,3,15,31,3,127,255,3,3,1027,3587,7683,3,16387,65027,130563,3,523779,1048575,2097151,4194303]
theorem impl_story.tab6 : rtab .any (opsOf Try.f111 6) = impl_story.T6 := by kernel_rfl
theorem impl_story.bits6 : waitsOk impl_story.T6.2 impl_story.B6 = true := by kernel_rfl
def impl_story.T12 : Bool × List (List Nat × List Nat) := (true,[([],[]),([],[]),([1],[1]),([0,2],[0,2]),([3],[3]),([4],[4]),([4],[4]),([5,6,4],[4,5,6]),([7,4],[4,7]),([4],[4]),([8,9,4],[4,8,9]),([10,4],[4,10]),([4],[4]),([4],[4]),([13,4],[4,13]),([12,14,4],[4,12,14]),([15,4],[4,15]),([4],[4]),([16,17,4],[4,16,17]),([18,4],[4,18]),([19,4],[4,19]),([11,20,4],[4,11,20]),([4,21],[4,21]),([22,4],[22])])
def impl_story.B12 : List Nat := [0,0,2,7,15,31,31,127,255,31,1023,2047,31,31,8223,28703,61471,31,258079,520223,1044511,2097151,4194303,8388607]
theorem impl_story.tab12 : rtab .any (opsOf Try.f111 12) = impl_story.T12 := by kernel_rfl
theorem impl_story.bits12 : waitsOk impl_story.T12.2 impl_story.B12 = true := by kernel_rfl
set_option maxHeartbeats 8000000 in
set_option maxRecDepth 100000 in
theorem impl_story.calls (k : Nat) (A0 : Option Addr) (c0 : Nat) (l0 : List (S73)) (A1 : Option Addr) (c1 : Nat) (l1 : List (S73)) (r : List (S100)) (w : World) (hr0 : Kd.C k73 w A0 l0.length l0) (hc0 : l0.length ≤ c0) (hr1 : Kd.C k73 w A1 l1.length l1) (hc1 : l1.length ≤ c1) (h : impl_story.f k l0 l1 = some r) :
  Calls Try.prog 111 #[.slice A0 l0.length c0,.slice A1 l1.length c1] w fun e w' => ∃ v0_ : Value,e = .returned (v0_) ∧ Kd.R k100 100 w' w.heap.size (fun _ => True) v0_ r ∧ Below w.heap.size w w' := by
 have hu73 := Try.underlying73;have hu100 := Try.underlying100;have HR0 := Aside0.mk hr0;have HC0 := Aside0.mk hc0;clear hr0 hc0;have HR1 := Aside0.mk hr1;have HC1 := Aside0.mk hc1;clear hr1 hc1;have HB := Aside0.mk (Below.refl w.heap.size w);have H : ((impl_faults.f k l0 l1).bind fun t101 => (impl_story.l0 k l0 l1 t101 (([] : List (S100))) 0 0)) = some r := h;clear h;replace H := Option.bind_eq_some_iff.mp H;obtain ⟨t101,A30,H⟩ := H;replace H : (impl_story.l0 k l0 l1 t101 (([] : List (S100))) 0 0) = some r := H;have A3 := Aside0.mk A30;clear A30;obtain ⟨y104,hy104⟩ : ∃ y_ : List (S100),y_ = (([] : List (S100))) := ⟨_,rfl⟩
 replace H : (impl_story.l0 k l0 l1 t101 y104 0 0) = some r := by first | (rw [hy104];with_reducible exact H) | (have H2_ := (Option.bind_some _ _).symm.trans H;rw [hy104];with_reducible exact H2_) | (have H2_ := (Option.bind_some _ _).symm.trans H;with_reducible exact H2_) | with_reducible exact H | (rw [hy104];exact H) | exact H
 have Ny104 := Aside0.mk hy104;clear hy104;have H' := Aside0.mk H;clear H
 go_enter Try.func111,Try.ntmps111
 go_wp2_with (first | ((with_reducible refine gate_callee (f := 87) rfl ?_);refine goesL_ (some 14) rfl rfl Try.func87 (by kernel_rfl) rfl #[.slice A0 l0.length c0,.slice A1 l1.length c1] rfl (by (try simp only [List.map_toArray,List.map_cons,List.map_nil]);first | done | rfl | (simp only [List.length_drop,List.length_take];rfl)) ?_;(with_reducible refine (impl_faults.calls k _ _ l0 _ _ l1 t101 _ ?side1 ?side2 ?side3 ?side4 A3.out).mono ?_);(case side1 => repeat (first | exact HR0.out | (with_reducible refine Kd.C_alloc ?_ _) | (with_reducible refine Kd.C_drewN ?_ _) | (with_reducible refine Kd.C_drew ?_)));(case side2 => exact HC0.out);(case side3 => repeat (first | exact HR1.out | (with_reducible refine Kd.C_alloc ?_ _) | (with_reducible refine Kd.C_drewN ?_ _) | (with_reducible refine Kd.C_drew ?_)));(case side4 => exact HC1.out);rintro e w4 ⟨v102,rfl,ho0,hb⟩;refine ⟨_,rfl,?_⟩;have n0_ := Aside0.mk (Kd.S_lower ho0 (below_size (by repeat (first | (with_reducible first | exact HB.out | apply below_alloc | apply pw_below_drewN | apply below_drew1) | exact HB.out))));have n1_ := Aside0.mk (below_step (by repeat (first | (with_reducible first | exact HB.out | apply below_alloc | apply pw_below_drewN | apply below_drew1) | exact HB.out)) hb);clear HB;have HO103 := n0_;have HB := n1_;clear n0_ n1_;(try clear hb);(try clear hb2);(try clear hk);(try clear hi);(try clear ho0)) | ((with_reducible refine gate_dst (N := 15) rfl ?_);(try (refine gate_guard (by rfl) ?_;dsimp only));refine Kd.R_lit k100 _ 100 ?hg (N := 15) ?hd (xs := ([] : List (S100))) (inner := []) (ok := fun _ => True) (okp := fun _ => True) ?hr ?hp (fun _ hk => hk) trivial (Below.refl _ _) (Nat.le_refl _) (by simp) ?_;(case hd => rfl);(case hg => rfl);(case hr => first | (go_simp;done) | (go_simp;rfl));(case hp => exact (Reps.none _ _));intro v105 w5 ho6 hb hg_ hnew_;clear hg_ hnew_;(first | rw [← Ny104.out] at ho6 | (simp only [Int.reduceToNat] at ho6;rw [← Ny104.out] at ho6));have n0_ := Aside0.mk (Kd.S_below (by (with_reducible repeat (first | apply Kd.S_alloc | apply Kd.S_drewN | apply Kd.S_drew));exact HO103.out) hb);have n1_ := Aside0.mk (Kd.R_lower ho6 (below_size (by repeat (first | (with_reducible first | exact HB.out | apply below_alloc | apply pw_below_drewN | apply below_drew1) | exact HB.out))));have n2_ := Aside0.mk (below_step (by repeat (first | (with_reducible first | exact HB.out | apply below_alloc | apply pw_below_drewN | apply below_drew1) | exact HB.out)) hb);clear HO103;clear HB;have HO103 := n0_;have HO106 := n1_;have HB := n2_;clear n0_ n1_ n2_;clear hb ho6))
 go_loopg [6,7,8] k (fun kq v6 v7 v8 w' => ∃ (x6_1 : List (S100)) (x7_1 : Int) (x8_1 : Int),v7 = .int .i64 x7_1 ∧ v8 = .int .i64 x8_1 ∧ Aside0 (impl_story.l0 kq l0 l1 t101 x6_1 x7_1 x8_1 = some r) ∧ Aside0 (kq ≤ k) ∧ Aside0 (Kd.S (Kd.slice 2 (Kd.int .i64)) 37 w' w.heap.size (fun _ => True) v102 t101) ∧ Aside0 (Kd.R k100 100 w' w.heap.size (fun _ => True) v6 x6_1) ∧ Aside0 (Below w.heap.size w w'))
 case atStart => exact ⟨(y104),(0),(0),(by first | rfl | (simp only [IntKind.wrap_i64,wrap64];done) | (simp;done) | (simp [*];done)),(by first | rfl | (simp only [IntKind.wrap_i64,wrap64];done) | (simp;done) | (simp [*];done)),H',⟨Nat.le_refl _⟩,⟨by (with_reducible repeat (first | apply Kd.S_alloc | apply Kd.S_drewN | apply Kd.S_drew));exact HO103.out⟩,⟨by (with_reducible repeat (first | apply Kd.R_alloc | apply Kd.R_drewN | apply Kd.R_drew));exact HO106.out⟩,⟨by repeat (first | (with_reducible first | exact HB.out | apply below_alloc | apply pw_below_drewN | apply below_drew1) | exact HB.out)⟩⟩
 case round =>
  clear H';(try clear c1);(try clear p2);obtain ⟨x6_1,x7_1,x8_1,rfl,rfl,HA,HK1,HO_5,HO_6,HB⟩ := hrel
  cases gk with
  | zero => exact absurd HA.out (by simp [impl_story.l0])
  | succ k1 =>
   have H := HA.out;clear HA;simp only [impl_story.l0] at H;have HC7 := Aside0.mk H;clear H
   go_upto_region 2 with (fail)
   go_cut [25] (fun v25 wc => ∃ (kq : Nat) (x25_6 : Bool),v25 = .bool x25_6 ∧ Aside0 (impl_story.j1 kq l0 l1 t101 x6_1 x7_1 x8_1 x25_6 = some r) ∧ Aside0 (kq ≤ k1) ∧ Aside0 (Kd.S (Kd.slice 2 (Kd.int .i64)) 37 wc w.heap.size (fun _ => True) v102 t101) ∧ Aside0 (Kd.R k100 100 wc w.heap.size (fun _ => True) u6 x6_1) ∧ Aside0 (Below w.heap.size w wc))
   case first =>
    have H := HC7.out;clear HC7
    by_cases c8 : x7_1 < (l0.length : Int)
    ·rw [if_pos c8] at H;have c8b0 : decide (x7_1 < (l0.length : Int)) = true := decide_eq_true c8;clear c8;(first | rw [c8b0] | (simp only [i64_w,i32_w];rw [c8b0]) | skip);have H' := Aside0.mk H;clear H
     go_wp2
     go_meet
     case rel => exact ⟨_,(true),(by first | rfl | (simp only [IntKind.wrap_i64,wrap64];done) | (simp;done) | (simp [*];done)),H',⟨by have := HK1.out;first | omega | exact Nat.le_refl _⟩,⟨by (with_reducible repeat (first | apply Kd.S_alloc | apply Kd.S_drewN | apply Kd.S_drew));exact HO_5.out⟩,⟨by (with_reducible repeat (first | apply Kd.R_alloc | apply Kd.R_drewN | apply Kd.R_drew));exact HO_6.out⟩,⟨by repeat (first | (with_reducible first | exact HB.out | apply below_alloc | apply pw_below_drewN | apply below_drew1) | exact HB.out)⟩⟩
    ·rw [if_neg c8] at H;have c8b0 : decide (x7_1 < (l0.length : Int)) = false := decide_eq_false c8;clear c8;(first | rw [c8b0] | (simp only [i64_w,i32_w];rw [c8b0]) | skip);have H' := Aside0.mk H;clear H
     go_wp2
     go_meet
     case rel => exact ⟨_,(decide (x8_1 < (l1.length : Int))),(by first | rfl | (simp only [IntKind.wrap_i64,wrap64];done) | (simp;done) | (simp [*];done)),H',⟨by have := HK1.out;first | omega | exact Nat.le_refl _⟩,⟨by (with_reducible repeat (first | apply Kd.S_alloc | apply Kd.S_drewN | apply Kd.S_drew));exact HO_5.out⟩,⟨by (with_reducible repeat (first | apply Kd.R_alloc | apply Kd.R_drewN | apply Kd.R_drew));exact HO_6.out⟩,⟨by repeat (first | (with_reducible first | exact HB.out | apply below_alloc | apply pw_below_drewN | apply below_drew1) | exact HB.out)⟩⟩
   case rest =>
    clear HC7;(try clear c1);(try clear p2);(try clear c8);(try clear c8b0);(try clear p2);obtain ⟨kq,x25_6,rfl,HA,HJ6,HO_5,HO_6,HB⟩ := hcut
    cases kq with
    | zero => exact absurd HA.out (by simp [impl_story.j1])
    | succ kj6 =>
     have H := HA.out;clear HA;simp only [impl_story.j1] at H
     by_cases c9 : x25_6 = true
     ·subst c9
      have H1 : (if x7_1 < (l0.length : Int) then (impl_story.j2 kj6 l0 l1 t101 x6_1 x7_1 x8_1 false (decide (x8_1 < (l1.length : Int)))) else (impl_story.j2 kj6 l0 l1 t101 x6_1 x7_1 x8_1 false false)) = some r := by rw [if_pos rfl] at H;exact H
      clear H;have H := H1;clear H1;have HC10 := Aside0.mk H;clear H
      go_upto_region 4 with (fail)
      go_cut [35] (fun v35 wc => ∃ (kq : Nat) (x35_9 : Bool),v35 = .bool x35_9 ∧ Aside0 (impl_story.j2 kq l0 l1 t101 x6_1 x7_1 x8_1 false x35_9 = some r) ∧ Aside0 (kq ≤ kj6) ∧ Aside0 (Kd.S (Kd.slice 2 (Kd.int .i64)) 37 wc w.heap.size (fun _ => True) v102 t101) ∧ Aside0 (Kd.R k100 100 wc w.heap.size (fun _ => True) u6 x6_1) ∧ Aside0 (Below w.heap.size w wc))
      case first =>
       have H := HC10.out;clear HC10
       by_cases c11 : x7_1 < (l0.length : Int)
       ·rw [if_pos c11] at H;have c11b0 : decide (x7_1 < (l0.length : Int)) = true := decide_eq_true c11;clear c11;(first | rw [c11b0] | (simp only [i64_w,i32_w];rw [c11b0]) | skip);have H' := Aside0.mk H;clear H
        go_wp2
        go_meet
        case rel => exact ⟨_,(decide (x8_1 < (l1.length : Int))),(by first | rfl | (simp only [IntKind.wrap_i64,wrap64];done) | (simp;done) | (simp [*];done)),H',⟨by have := HK1.out;have := HJ6.out;first | omega | exact Nat.le_refl _⟩,⟨by (with_reducible repeat (first | apply Kd.S_alloc | apply Kd.S_drewN | apply Kd.S_drew));exact HO_5.out⟩,⟨by (with_reducible repeat (first | apply Kd.R_alloc | apply Kd.R_drewN | apply Kd.R_drew));exact HO_6.out⟩,⟨by repeat (first | (with_reducible first | exact HB.out | apply below_alloc | apply pw_below_drewN | apply below_drew1) | exact HB.out)⟩⟩
       ·rw [if_neg c11] at H;have c11b0 : decide (x7_1 < (l0.length : Int)) = false := decide_eq_false c11;clear c11;(first | rw [c11b0] | (simp only [i64_w,i32_w];rw [c11b0]) | skip);have H' := Aside0.mk H;clear H
        go_wp2
        go_meet
        case rel => exact ⟨_,(false),(by first | rfl | (simp only [IntKind.wrap_i64,wrap64];done) | (simp;done) | (simp [*];done)),H',⟨by have := HK1.out;have := HJ6.out;first | omega | exact Nat.le_refl _⟩,⟨by (with_reducible repeat (first | apply Kd.S_alloc | apply Kd.S_drewN | apply Kd.S_drew));exact HO_5.out⟩,⟨by (with_reducible repeat (first | apply Kd.R_alloc | apply Kd.R_drewN | apply Kd.R_drew));exact HO_6.out⟩,⟨by repeat (first | (with_reducible first | exact HB.out | apply below_alloc | apply pw_below_drewN | apply below_drew1) | exact HB.out)⟩⟩
      case rest =>
       clear HC10;(try clear c1);(try clear p2);(try clear c8);(try clear c8b0);(try clear c9);(try clear c11);(try clear c11b0);(try clear p2);obtain ⟨kq,x35_9,rfl,HA,HJ9,HO_5,HO_6,HB⟩ := hcut
       cases kq with
       | zero => exact absurd HA.out (by simp [impl_story.j2])
       | succ kj9 =>
        have H := HA.out;clear HA;simp only [impl_story.j2] at H;have HC12 := Aside0.mk H;clear H
        go_upto_if 35 with (fail)
        go_cut [9] (fun v9 wc => ∃ (kq : Nat) (x9_11 : Bool),v9 = .bool x9_11 ∧ Aside0 (impl_story.j3 kq l0 l1 t101 x6_1 x7_1 x8_1 x9_11 = some r) ∧ Aside0 (kq ≤ kj9) ∧ Aside0 (Kd.S (Kd.slice 2 (Kd.int .i64)) 37 wc w.heap.size (fun _ => True) v102 t101) ∧ Aside0 (Kd.R k100 100 wc w.heap.size (fun _ => True) u6 x6_1) ∧ Aside0 (Below w.heap.size w wc))
        case first =>
         have H := HC12.out;clear HC12
         by_cases c13 : x35_9 = true
         ·subst c13
          have H1 : (if 0 ≤ x7_1 then (if x7_1 < (l0.length : Int) then (if 0 ≤ x8_1 then (if x8_1 < (l1.length : Int) then ((impl_stepFaults.f ((rd_T73 l0 x7_1).f0) ((rd_T73 l0 x7_1).f1) ((rd_T73 l0 x7_1).f2) ((rd_T73 l1 x8_1).f0) ((rd_T73 l1 x8_1).f1) ((rd_T73 l1 x8_1).f2)).bind fun bt109 => (if bt109.2 = true then (if x7_1 < (t101.length : Int) then (if x8_1 < ((rd_L6 t101 x7_1).length : Int) then (if 0 ≤ (wrap64 (x7_1 + 1)) then (if (wrap64 (x7_1 + 1)) < (t101.length : Int) then (if 0 ≤ (wrap64 (x8_1 + 1)) then (if (wrap64 (x8_1 + 1)) < ((rd_L6 t101 (wrap64 (x7_1 + 1))).length : Int) then (impl_story.j3 kj9 l0 l1 t101 x6_1 x7_1 x8_1 ((rd (rd_L6 t101 x7_1) x8_1) == (wrap64 ((rd (rd_L6 t101 (wrap64 (x7_1 + 1))) (wrap64 (x8_1 + 1))) + bt109.1)))) else (none)) else (none)) else (none)) else (none)) else (none)) else (none)) else (impl_story.j3 kj9 l0 l1 t101 x6_1 x7_1 x8_1 false))) else (none)) else (none)) else (none)) else (none)) = some r := by rw [if_pos rfl] at H;exact H
          clear H;have H := H1;clear H1
          by_cases c14 : 0 ≤ x7_1
          ·rw [if_pos c14] at H;have c14b0 : decide (0 ≤ x7_1) = true := decide_eq_true c14;clear c14;(first | rw [c14b0] | (simp only [i64_w,i32_w];rw [c14b0]) | skip)
           by_cases c15 : x7_1 < (l0.length : Int)
           ·rw [if_pos c15] at H;have c15b0 : decide (x7_1 < (l0.length : Int)) = true := decide_eq_true c15;clear c15
            by_cases c16 : 0 ≤ x8_1
            ·rw [if_pos c16] at H;have c16b0 : decide (0 ≤ x8_1) = true := decide_eq_true c16;clear c16
             by_cases c17 : x8_1 < (l1.length : Int)
             ·rw [if_pos c17] at H;have c17b0 : decide (x8_1 < (l1.length : Int)) = true := decide_eq_true c17;clear c17;replace H := Option.bind_eq_some_iff.mp H;obtain ⟨⟨t109,t110⟩,A180,H⟩ := H;replace H : (if t110 = true then (if x7_1 < (t101.length : Int) then (if x8_1 < ((rd_L6 t101 x7_1).length : Int) then (if 0 ≤ (wrap64 (x7_1 + 1)) then (if (wrap64 (x7_1 + 1)) < (t101.length : Int) then (if 0 ≤ (wrap64 (x8_1 + 1)) then (if (wrap64 (x8_1 + 1)) < ((rd_L6 t101 (wrap64 (x7_1 + 1))).length : Int) then (impl_story.j3 kj9 l0 l1 t101 x6_1 x7_1 x8_1 ((rd (rd_L6 t101 x7_1) x8_1) == (wrap64 ((rd (rd_L6 t101 (wrap64 (x7_1 + 1))) (wrap64 (x8_1 + 1))) + t109)))) else (none)) else (none)) else (none)) else (none)) else (none)) else (none)) else (impl_story.j3 kj9 l0 l1 t101 x6_1 x7_1 x8_1 false)) = some r := H;have A18 := Aside0.mk A180;clear A180
              by_cases c19 : t110 = true
              ·subst c19
               have H1 : (if x7_1 < (t101.length : Int) then (if x8_1 < ((rd_L6 t101 x7_1).length : Int) then (if 0 ≤ (wrap64 (x7_1 + 1)) then (if (wrap64 (x7_1 + 1)) < (t101.length : Int) then (if 0 ≤ (wrap64 (x8_1 + 1)) then (if (wrap64 (x8_1 + 1)) < ((rd_L6 t101 (wrap64 (x7_1 + 1))).length : Int) then (impl_story.j3 kj9 l0 l1 t101 x6_1 x7_1 x8_1 ((rd (rd_L6 t101 x7_1) x8_1) == (wrap64 ((rd (rd_L6 t101 (wrap64 (x7_1 + 1))) (wrap64 (x8_1 + 1))) + t109)))) else (none)) else (none)) else (none)) else (none)) else (none)) else (none)) = some r := by rw [if_pos rfl] at H;exact H
               clear H;have H := H1;clear H1
               by_cases c20 : x7_1 < (t101.length : Int)
               ·rw [if_pos c20] at H;have c20b0 : decide (x7_1 < (t101.length : Int)) = true := decide_eq_true c20;clear c20
                by_cases c21 : x8_1 < ((rd_L6 t101 x7_1).length : Int)
                ·rw [if_pos c21] at H;have c21b0 : decide (x8_1 < ((rd_L6 t101 x7_1).length : Int)) = true := decide_eq_true c21;clear c21;obtain ⟨ji22,hji22⟩ : ∃ j_ : Int,(wrap64 (x7_1 + 1)) = j_ := ⟨_,rfl⟩
                 replace H : (if 0 ≤ (ji22) then (if (ji22) < (t101.length : Int) then (if 0 ≤ (wrap64 (x8_1 + 1)) then (if (wrap64 (x8_1 + 1)) < ((rd_L6 t101 (ji22)).length : Int) then (impl_story.j3 kj9 l0 l1 t101 x6_1 x7_1 x8_1 ((rd (rd_L6 t101 x7_1) x8_1) == (wrap64 ((rd (rd_L6 t101 (ji22)) (wrap64 (x8_1 + 1))) + t109)))) else (none)) else (none)) else (none)) else (none)) = some r := by first | (rw [hji22] at H;exact H) | (simp only [hji22] at H ⊢;exact H)
                 (try rw [hji22] at A18);have hji22w : (IntKind.i64.wrap (x7_1 + 1)) = ji22 := (i64_w _).trans hji22
                 by_cases c23 : 0 ≤ (ji22)
                 ·rw [if_pos c23] at H;have c23b0 : decide (0 ≤ (ji22)) = true := decide_eq_true c23;clear c23
                  by_cases c24 : (ji22) < (t101.length : Int)
                  ·rw [if_pos c24] at H;have c24b0 : decide ((ji22) < (t101.length : Int)) = true := decide_eq_true c24;clear c24;obtain ⟨ji25,hji25⟩ : ∃ j_ : Int,(wrap64 (x8_1 + 1)) = j_ := ⟨_,rfl⟩
                   replace H : (if 0 ≤ (ji25) then (if (ji25) < ((rd_L6 t101 (ji22)).length : Int) then (impl_story.j3 kj9 l0 l1 t101 x6_1 x7_1 x8_1 ((rd (rd_L6 t101 x7_1) x8_1) == (wrap64 ((rd (rd_L6 t101 (ji22)) (ji25)) + t109)))) else (none)) else (none)) = some r := by first | (rw [hji25] at H;exact H) | (simp only [hji25] at H ⊢;exact H)
                   (try rw [hji25] at A18);have hji25w : (IntKind.i64.wrap (x8_1 + 1)) = ji25 := (i64_w _).trans hji25
                   by_cases c26 : 0 ≤ (ji25)
                   ·rw [if_pos c26] at H;have c26b0 : decide (0 ≤ (ji25)) = true := decide_eq_true c26;clear c26
                    by_cases c27 : (ji25) < ((rd_L6 t101 (ji22)).length : Int)
                    ·rw [if_pos c27] at H;have c27b0 : decide ((ji25) < ((rd_L6 t101 (ji22)).length : Int)) = true := decide_eq_true c27;clear c27;have H' := Aside0.mk H;clear H;(try go_wp2);have n0_ := Aside0.mk (Kd.S_drew HO_5.out);have n1_ := Aside0.mk (Kd.R_drew HO_6.out);have n2_ := Aside0.mk (below_drew1 HB.out);clear HO_5;clear HO_6;clear HB;have HO_5 := n0_;have HO_6 := n1_;have HB := n2_;clear n0_ n1_ n2_;have p107 : 0 ≤ (x7_1 : Int) := of_decide_eq_true (by first | (with_reducible assumption) | assumption);have q107 : x7_1 < (l0.length : Int) := of_decide_eq_true (by first | (with_reducible assumption) | assumption);obtain ⟨ad107,e107,hx107_0,hx107_1,hx107_2⟩ := at_T73 HR0.out x7_1 p107 q107;have hw107_2 := hx107_2;have hw107_1 := hx107_1;have hw107_0 := hx107_0;cases e107;replace hx107_0 := (HB.out.cell (World.block_lt_of_cell? w _ hx107_0)).trans hx107_0;replace hx107_1 := (HB.out.cell (World.block_lt_of_cell? w _ hx107_1)).trans hx107_1;replace hx107_2 := (HB.out.cell (World.block_lt_of_cell? w _ hx107_2)).trans hx107_2;replace p107 := eq_true p107;replace q107 := eq_true q107;have p108 : 0 ≤ (x8_1 : Int) := of_decide_eq_true (by first | (with_reducible assumption) | assumption);have q108 : x8_1 < (l1.length : Int) := of_decide_eq_true (by first | (with_reducible assumption) | assumption);obtain ⟨ad108,e108,hx108_0,hx108_1,hx108_2⟩ := at_T73 HR1.out x8_1 p108 q108;have hw108_2 := hx108_2;have hw108_1 := hx108_1;have hw108_0 := hx108_0;cases e108;replace hx108_0 := (HB.out.cell (World.block_lt_of_cell? w _ hx108_0)).trans hx108_0;replace hx108_1 := (HB.out.cell (World.block_lt_of_cell? w _ hx108_1)).trans hx108_1;replace hx108_2 := (HB.out.cell (World.block_lt_of_cell? w _ hx108_2)).trans hx108_2;replace p108 := eq_true p108;replace q108 := eq_true q108;refine start_ (n := 14) (S := fun w' => w'.cell? (ad107.add ((x7_1).toNat * 3)) = some (.int .i64 ((rd_T73 l0 x7_1).f0)) ∧ w'.cell? ⟨(ad107.add ((x7_1).toNat * 3)).block,(ad107.add ((x7_1).toNat * 3)).off + 1,none⟩ = some (.int .i64 ((rd_T73 l0 x7_1).f1)) ∧ w'.cell? ⟨(ad107.add ((x7_1).toNat * 3)).block,(ad107.add ((x7_1).toNat * 3)).off + 2,none⟩ = some (.bool ((rd_T73 l0 x7_1).f2)) ∧ w'.cell? (ad108.add ((x8_1).toNat * 3)) = some (.int .i64 ((rd_T73 l1 x8_1).f0)) ∧ w'.cell? ⟨(ad108.add ((x8_1).toNat * 3)).block,(ad108.add ((x8_1).toNat * 3)).off + 1,none⟩ = some (.int .i64 ((rd_T73 l1 x8_1).f1)) ∧ w'.cell? ⟨(ad108.add ((x8_1).toNat * 3)).block,(ad108.add ((x8_1).toNat * 3)).off + 2,none⟩ = some (.bool ((rd_T73 l1 x8_1).f2))) (ds := []) #[false,false,false,false,false,false,false,false,false,false,false,false,false,false] (by kernel_rfl) rfl rfl ⟨((HB.out.cell (World.block_lt_of_cell? w _ hw107_0)).trans hw107_0),((HB.out.cell (World.block_lt_of_cell? w _ hw107_1)).trans hw107_1),((HB.out.cell (World.block_lt_of_cell? w _ hw107_2)).trans hw107_2),((HB.out.cell (World.block_lt_of_cell? w _ hw108_0)).trans hw108_0),((HB.out.cell (World.block_lt_of_cell? w _ hw108_1)).trans hw108_1),((HB.out.cell (World.block_lt_of_cell? w _ hw108_2)).trans hw108_2)⟩ (fun hHeld => ?_);refine with_tabW impl_story.tab5 impl_story.bits5 (fun HT_ HW_ => ?_);generalize wc.drew = w28 at HO_5 HO_6 HB hx107_0 hx107_1 hx107_2 hx108_0 hx108_1 hx108_2 hHeld ⊢;refine pure_ (i := 0) (N := some 37) (v := ?_) (a' := ?_) #[true,false,false,false,false,false,false,false,false,false,false,false,false,false] rfl rfl (any_of HT_.out (by kernel_rfl)) (fun _ _ _ h => h) (Or.inl ⟨by rfl,?_⟩) ?_ ?_;rotate_left
                     ·intro w';go_simp;with_reducible rfl
                     rotate_left
                     ·simp only [Act.put,List.setIfInBounds_toArray,List.set_cons_zero,List.set_cons_succ,i64_w,i32_w];rfl
                     refine pure_ (i := 1) (N := some 38) (v := ?_) (a' := ?_) #[true,true,false,false,false,false,false,false,false,false,false,false,false,false] rfl rfl (any_of HT_.out (by kernel_rfl)) (fun _ _ _ h => h) (Or.inl ⟨by rfl,?_⟩) ?_ ?_;rotate_left
                     ·intro w';go_simp;with_reducible rfl
                     rotate_left
                     ·simp only [Act.put,List.setIfInBounds_toArray,List.set_cons_zero,List.set_cons_succ,i64_w,i32_w];rfl
                     refine pure_ (i := 2) (N := some 39) (v := ?_) (a' := ?_) #[true,true,true,false,false,false,false,false,false,false,false,false,false,false] rfl rfl (any_of HT_.out (by kernel_rfl)) (fun _ _ _ h => h) (Or.inl ⟨by rfl,?_⟩) ?_ ?_;rotate_left
                     ·intro w';go_simp;with_reducible rfl
                     rotate_left
                     ·simp only [Act.put,List.setIfInBounds_toArray,List.set_cons_zero,List.set_cons_succ,i64_w,i32_w];rfl
                     refine pure_ (i := 4) (N := some 41) (v := ?_) (a' := ?_) #[true,true,true,false,true,false,false,false,false,false,false,false,false,false] rfl rfl (any_of HT_.out (by kernel_rfl)) (fun _ _ _ h => h) (Or.inl ⟨by rfl,?_⟩) ?_ ?_;rotate_left
                     ·intro w';go_simp;with_reducible rfl
                     rotate_left
                     ·simp only [Act.put,List.setIfInBounds_toArray,List.set_cons_zero,List.set_cons_succ,i64_w,i32_w];rfl
                     refine pure_ (i := 5) (N := some 42) (v := ?_) (a' := ?_) #[true,true,true,false,true,true,false,false,false,false,false,false,false,false] rfl rfl (any_of HT_.out (by kernel_rfl)) (fun _ _ _ h => h) (Or.inl ⟨by rfl,?_⟩) ?_ ?_;rotate_left
                     ·intro w';go_simp;with_reducible rfl
                     rotate_left
                     ·simp only [Act.put,List.setIfInBounds_toArray,List.set_cons_zero,List.set_cons_succ,i64_w,i32_w];rfl
                     refine pure_ (i := 6) (N := some 43) (v := ?_) (a' := ?_) #[true,true,true,false,true,true,true,false,false,false,false,false,false,false] rfl rfl (any_of HT_.out (by kernel_rfl)) (fun _ _ _ h => h) (Or.inl ⟨by rfl,?_⟩) ?_ ?_;rotate_left
                     ·intro w';go_simp;with_reducible rfl
                     rotate_left
                     ·simp only [Act.put,List.setIfInBounds_toArray,List.set_cons_zero,List.set_cons_succ,i64_w,i32_w];rfl
                     refine take_ (i := 3) (N := some 40) (v := ?_) (a' := ?_) #[true,true,true,true,true,true,true,false,false,false,false,false,false,false] rfl rfl (take_ofW HT_.out HW_.out (by kernel_rfl)) (fun _ _ _ h => h) (Or.inl ⟨by rfl,?_⟩) hHeld ?_ ?_;rotate_left
                     ·rintro w' ⟨s0,s1,s2,s3,s4,s5⟩
                      go_simp;with_reducible rfl
                     rotate_left
                     ·simp only [Act.put,List.setIfInBounds_toArray,List.set_cons_zero,List.set_cons_succ,i64_w,i32_w];rfl
                     refine take_ (i := 7) (N := some 44) (v := ?_) (a' := ?_) #[true,true,true,true,true,true,true,true,false,false,false,false,false,false] rfl rfl (take_ofW HT_.out HW_.out (by kernel_rfl)) (fun _ _ _ h => h) (Or.inl ⟨by rfl,?_⟩) hHeld ?_ ?_;rotate_left
                     ·rintro w' ⟨s0,s1,s2,s3,s4,s5⟩
                      go_simp;with_reducible rfl
                     rotate_left
                     ·simp only [Act.put,List.setIfInBounds_toArray,List.set_cons_zero,List.set_cons_succ,i64_w,i32_w];rfl
                     refine one_ (i := 8) (N := some 45) #[true,true,true,true,true,true,true,true,true,false,false,false,false,false] rfl rfl (one_of HT_.out (by kernel_rfl)) (by decide) (fun K hK => ?_);refine goes_ Try.func98 (by kernel_rfl) rfl #[.agg #[.int .i64 ((rd_T73 l0 x7_1).f0),.int .i64 ((rd_T73 l0 x7_1).f1),.bool ((rd_T73 l0 x7_1).f2)],.agg #[.int .i64 ((rd_T73 l1 x8_1).f0),.int .i64 ((rd_T73 l1 x8_1).f1),.bool ((rd_T73 l1 x8_1).f2)]] (by rfl) rfl rfl (by (try simp only [List.map_toArray,List.map_cons,List.map_nil]);first | done | rfl | (simp only [List.length_drop,List.length_take];rfl)) ?_
                     with_reducible refine (impl_stepFaults.calls ((rd_T73 l0 x7_1).f0) ((rd_T73 l0 x7_1).f1) ((rd_T73 l0 x7_1).f2) ((rd_T73 l1 x8_1).f0) ((rd_T73 l1 x8_1).f1) ((rd_T73 l1 x8_1).f2) t109 true _ A18.out).mono ?_
                     rintro e w29 ⟨rfl,hb⟩
                     refine ⟨_,rfl,?_⟩;have n0_ := Aside0.mk (Kd.S_below (by (with_reducible repeat (first | apply Kd.S_alloc | apply Kd.S_drewN | apply Kd.S_drew));exact HO_5.out) hb);have n1_ := Aside0.mk (Kd.R_below (by (with_reducible repeat (first | apply Kd.R_alloc | apply Kd.R_drewN | apply Kd.R_drew));exact HO_6.out) hb);have n2_ := Aside0.mk (below_step (by repeat (first | (with_reducible first | exact HB.out | apply below_alloc | apply pw_below_drewN | apply below_drew1) | exact HB.out)) hb);clear HO_5;clear HO_6;clear HB;have HO_5 := n0_;have HO_6 := n1_;have HB := n2_;clear n0_ n1_ n2_;(try clear hb);(try clear hb2);(try clear hk);(try clear hi);refine hK.out _ _ ⟨((HB.out.cell (World.block_lt_of_cell? w _ hw107_0)).trans hw107_0),((HB.out.cell (World.block_lt_of_cell? w _ hw107_1)).trans hw107_1),((HB.out.cell (World.block_lt_of_cell? w _ hw107_2)).trans hw107_2),((HB.out.cell (World.block_lt_of_cell? w _ hw108_0)).trans hw108_0),((HB.out.cell (World.block_lt_of_cell? w _ hw108_1)).trans hw108_1),((HB.out.cell (World.block_lt_of_cell? w _ hw108_2)).trans hw108_2)⟩ (fun hHeld => ?_);clear hK K;refine norm_ (a' := ?_) ?_ ?_;rotate_left
                     ·show Act.put _ (some 45) _ = _
                      simp only [Act.put,List.setIfInBounds_toArray,List.set_cons_zero,List.set_cons_succ,i64_w,i32_w];rfl
                     refine pure_ (i := 9) (N := some 36) (v := ?_) (a' := ?_) #[true,true,true,true,true,true,true,true,true,true,false,false,false,false] rfl rfl (any_of HT_.out (by kernel_rfl)) (fun _ _ _ h => h) (Or.inl ⟨by rfl,?_⟩) ?_ ?_;rotate_left
                     ·intro w';go_simp;with_reducible rfl
                     rotate_left
                     ·simp only [Act.put,List.setIfInBounds_toArray,List.set_cons_zero,List.set_cons_succ,i64_w,i32_w];rfl
                     refine pure_ (i := 10) (N := some 46) (v := ?_) (a' := ?_) #[true,true,true,true,true,true,true,true,true,true,true,false,false,false] rfl rfl (any_of HT_.out (by kernel_rfl)) (fun _ _ _ h => h) (Or.inl ⟨by rfl,?_⟩) ?_ ?_;rotate_left
                     ·intro w';go_simp;with_reducible rfl
                     rotate_left
                     ·simp only [Act.put,List.setIfInBounds_toArray,List.set_cons_zero,List.set_cons_succ,i64_w,i32_w];rfl
                     refine pure_ (i := 11) (N := some 47) (v := ?_) (a' := ?_) #[true,true,true,true,true,true,true,true,true,true,true,true,false,false] rfl rfl (any_of HT_.out (by kernel_rfl)) (fun _ _ _ h => h) (Or.inl ⟨by rfl,?_⟩) ?_ ?_;rotate_left
                     ·intro w';go_simp;with_reducible rfl
                     rotate_left
                     ·simp only [Act.put,List.setIfInBounds_toArray,List.set_cons_zero,List.set_cons_succ,i64_w,i32_w];rfl
                     refine pure_ (i := 12) (N := some 10) (v := ?_) (a' := ?_) #[true,true,true,true,true,true,true,true,true,true,true,true,true,false] rfl rfl (any_of HT_.out (by kernel_rfl)) (fun _ _ _ h => h) (Or.inl ⟨by rfl,?_⟩) ?_ ?_;rotate_left
                     ·intro w';go_simp;with_reducible rfl
                     rotate_left
                     ·simp only [Act.put,List.setIfInBounds_toArray,List.set_cons_zero,List.set_cons_succ,i64_w,i32_w];rfl
                     refine pure_ (i := 13) (N := some 11) (v := ?_) (a' := ?_) #[true,true,true,true,true,true,true,true,true,true,true,true,true,true] rfl rfl (any_of HT_.out (by kernel_rfl)) (fun _ _ _ h => h) (Or.inl ⟨by rfl,?_⟩) ?_ ?_;rotate_left
                     ·intro w';go_simp;with_reducible rfl
                     rotate_left
                     ·simp only [Act.put,List.setIfInBounds_toArray,List.set_cons_zero,List.set_cons_succ,i64_w,i32_w];rfl
                     refine done_ (done_of HT_.out (by kernel_rfl)) ?_;(try go_wp2);have n0_ := Aside0.mk (Kd.S_drew HO_5.out);have n1_ := Aside0.mk (Kd.R_drew HO_6.out);have n2_ := Aside0.mk (below_drew1 HB.out);clear HO_5;clear HO_6;clear HB;have HO_5 := n0_;have HO_6 := n1_;have HB := n2_;clear n0_ n1_ n2_;obtain ⟨Ao31,co31,eo31⟩ := Kd.S_slice HO_5.out;(first | subst eo31 | (injection eo31 with f1_ f2_ f3_;have f4_ := f1_.symm;have f5_ := f3_.symm;clear f1_ f2_ f3_;subst f4_;subst f5_));have p111 : 0 ≤ (x7_1 : Int) := of_decide_eq_true (by first | (with_reducible assumption) | assumption);have q111 : x7_1 < (t101.length : Int) := of_decide_eq_true (by first | (with_reducible assumption) | assumption);obtain ⟨ad111,A111_0,c111_0,e111,hx111_0,hl111_0,hi111_0⟩ := at_L6 (Kd.S_reads' HO_5.out).2.2 x7_1 p111 q111;cases e111;obtain ⟨ce111,hce111,hMe111,hcc111⟩ := Kd.S_get HO_5.out [] x7_1 p111 (by first | exact q111 | exact of_decide_eq_true (by first | (with_reducible assumption) | assumption) | (have e_ := (Kd.S_reads' HO_5.out).1;omega));obtain ⟨ve111_0,rfl,ge111_0⟩ := hMe111;have hv111_0 := hcc111 0 _ rfl;rw [Nat.add_zero,show ((Kd.slice 2 (Kd.int .i64))).sz = 1 from rfl,Nat.mul_one] at hv111_0;replace hv111_0 := Option.some.inj (hv111_0.symm.trans hx111_0);rw [hv111_0] at ge111_0;have HL111_0 := Aside0.mk (show Kd.R (Kd.int .i64) 2 _ _ _ _ (rd_L6 t101 x7_1) from ge111_0);clear hv111_0 ge111_0;clear hcc111 hce111;have HR111_0 := Aside0.mk hi111_0;have HC111_0 := Aside0.mk hl111_0;clear hi111_0 hl111_0;replace p111 := eq_true p111;replace q111 := eq_true q111;have p112 : 0 ≤ (x8_1 : Int) := of_decide_eq_true (by first | (with_reducible assumption) | assumption);have q112 : x8_1 < ((rd_L6 t101 x7_1).length : Int) := of_decide_eq_true (by first | (with_reducible assumption) | assumption);obtain ⟨ad112,e112,hx112_0⟩ := Kd.at_int (by repeat (first | (with_reducible exact HR111_0.out) | (with_reducible refine Kd.C_alloc ?_ _) | (with_reducible refine Kd.C_drewN ?_ _) | (with_reducible refine Kd.C_drew ?_) | exact HR111_0.out)) x8_1 p112 q112;cases e112;replace p112 := eq_true p112;replace q112 := eq_true q112;have p113 : 0 ≤ ((ji22) : Int) := of_decide_eq_true (by first | (with_reducible assumption) | assumption);have q113 : (ji22) < (t101.length : Int) := of_decide_eq_true (by first | (with_reducible assumption) | assumption);obtain ⟨ad113,A113_0,c113_0,e113,hx113_0,hl113_0,hi113_0⟩ := at_L6 (Kd.S_reads' HO_5.out).2.2 (ji22) p113 q113;obtain rfl : ad111 = ad113 := (by injection e113);obtain ⟨ce113,hce113,hMe113,hcc113⟩ := Kd.S_get HO_5.out [] (ji22) p113 (by first | exact q113 | exact of_decide_eq_true (by first | (with_reducible assumption) | assumption) | (have e_ := (Kd.S_reads' HO_5.out).1;omega));obtain ⟨ve113_0,rfl,ge113_0⟩ := hMe113;have hv113_0 := hcc113 0 _ rfl;rw [Nat.add_zero,show ((Kd.slice 2 (Kd.int .i64))).sz = 1 from rfl,Nat.mul_one] at hv113_0;replace hv113_0 := Option.some.inj (hv113_0.symm.trans hx113_0);rw [hv113_0] at ge113_0;have HL113_0 := Aside0.mk (show Kd.R (Kd.int .i64) 2 _ _ _ _ (rd_L6 t101 (ji22)) from ge113_0);clear hv113_0 ge113_0;clear hcc113 hce113;have HR113_0 := Aside0.mk hi113_0;have HC113_0 := Aside0.mk hl113_0;clear hi113_0 hl113_0;replace p113 := eq_true p113;replace q113 := eq_true q113;have p114 : 0 ≤ ((ji25) : Int) := of_decide_eq_true (by first | (with_reducible assumption) | assumption);have q114 : (ji25) < ((rd_L6 t101 (ji22)).length : Int) := of_decide_eq_true (by first | (with_reducible assumption) | assumption);obtain ⟨ad114,e114,hx114_0⟩ := Kd.at_int (by repeat (first | (with_reducible exact HR113_0.out) | (with_reducible refine Kd.C_alloc ?_ _) | (with_reducible refine Kd.C_drewN ?_ _) | (with_reducible refine Kd.C_drew ?_) | exact HR113_0.out)) (ji25) p114 q114;cases e114;replace p114 := eq_true p114;replace q114 := eq_true q114;refine start_ (n := 23) (S := fun w' => w'.cell? (ad111.add (x7_1).toNat) = some (.slice (some ad112) (rd_L6 t101 x7_1).length c111_0) ∧ w'.cell? (ad112.add (x8_1).toNat) = some (.int .i64 (rd (rd_L6 t101 x7_1) x8_1)) ∧ w'.cell? (ad111.add ((ji22)).toNat) = some (.slice (some ad114) (rd_L6 t101 (ji22)).length c113_0) ∧ w'.cell? (ad114.add ((ji25)).toNat) = some (.int .i64 (rd (rd_L6 t101 (ji22)) (ji25)))) (ds := []) #[false,false,false,false,false,false,false,false,false,false,false,false,false,false,false,false,false,false,false,false,false,false,false] (by kernel_rfl) rfl rfl ⟨hx111_0,hx112_0,hx113_0,hx114_0⟩ (fun hHeld => ?_);refine with_tabW impl_story.tab6 impl_story.bits6 (fun HT_ HW_ => ?_);generalize w29.drew = w30 at HO_5 HO_6 HB HL111_0 HL113_0 HR111_0 HR113_0 hx111_0 hx112_0 hx113_0 hx114_0 hHeld ⊢;refine pure_ (i := 0) (N := some 48) (v := ?_) (a' := ?_) #[true,false,false,false,false,false,false,false,false,false,false,false,false,false,false,false,false,false,false,false,false,false,false] rfl rfl (any_of HT_.out (by kernel_rfl)) (fun _ _ _ h => h) (Or.inl ⟨by rfl,?_⟩) ?_ ?_;rotate_left
                     ·intro w';go_simp;with_reducible rfl
                     rotate_left
                     ·simp only [Act.put,List.setIfInBounds_toArray,List.set_cons_zero,List.set_cons_succ,i64_w,i32_w];rfl
                     refine pure_ (i := 1) (N := some 49) (v := ?_) (a' := ?_) #[true,true,false,false,false,false,false,false,false,false,false,false,false,false,false,false,false,false,false,false,false,false,false] rfl rfl (any_of HT_.out (by kernel_rfl)) (fun _ _ _ h => h) (Or.inl ⟨by rfl,?_⟩) ?_ ?_;rotate_left
                     ·intro w';go_simp;with_reducible rfl
                     rotate_left
                     ·simp only [Act.put,List.setIfInBounds_toArray,List.set_cons_zero,List.set_cons_succ,i64_w,i32_w];rfl
                     refine pure_ (i := 2) (N := some 50) (v := ?_) (a' := ?_) #[true,true,true,false,false,false,false,false,false,false,false,false,false,false,false,false,false,false,false,false,false,false,false] rfl rfl (any_of HT_.out (by kernel_rfl)) (fun _ _ _ h => h) (Or.inl ⟨by rfl,?_⟩) ?_ ?_;rotate_left
                     ·intro w';go_simp;with_reducible rfl
                     rotate_left
                     ·simp only [Act.put,List.setIfInBounds_toArray,List.set_cons_zero,List.set_cons_succ,i64_w,i32_w];rfl
                     refine pure_ (i := 3) (N := some 51) (v := ?_) (a' := ?_) #[true,true,true,true,false,false,false,false,false,false,false,false,false,false,false,false,false,false,false,false,false,false,false] rfl rfl (any_of HT_.out (by kernel_rfl)) (fun _ _ _ h => h) (Or.inl ⟨by rfl,?_⟩) ?_ ?_;rotate_left
                     ·intro w';go_simp;with_reducible rfl
                     rotate_left
                     ·simp only [Act.put,List.setIfInBounds_toArray,List.set_cons_zero,List.set_cons_succ,i64_w,i32_w];rfl
                     refine pure_ (i := 4) (N := some 52) (v := ?_) (a' := ?_) #[true,true,true,true,true,false,false,false,false,false,false,false,false,false,false,false,false,false,false,false,false,false,false] rfl rfl (any_of HT_.out (by kernel_rfl)) (fun _ _ _ h => h) (Or.inl ⟨by rfl,?_⟩) ?_ ?_;rotate_left
                     ·intro w';go_simp;with_reducible rfl
                     rotate_left
                     ·simp only [Act.put,List.setIfInBounds_toArray,List.set_cons_zero,List.set_cons_succ,i64_w,i32_w];rfl
                     refine pure_ (i := 6) (N := some 54) (v := ?_) (a' := ?_) #[true,true,true,true,true,false,true,false,false,false,false,false,false,false,false,false,false,false,false,false,false,false,false] rfl rfl (any_of HT_.out (by kernel_rfl)) (fun _ _ _ h => h) (Or.inl ⟨by rfl,?_⟩) ?_ ?_;rotate_left
                     ·intro w';go_simp;with_reducible rfl
                     rotate_left
                     ·simp only [Act.put,List.setIfInBounds_toArray,List.set_cons_zero,List.set_cons_succ,i64_w,i32_w];rfl
                     refine pure_ (i := 9) (N := some 57) (v := ?_) (a' := ?_) #[true,true,true,true,true,false,true,false,false,true,false,false,false,false,false,false,false,false,false,false,false,false,false] rfl rfl (any_of HT_.out (by kernel_rfl)) (fun _ _ _ h => h) (Or.inl ⟨by rfl,?_⟩) ?_ ?_;rotate_left
                     ·intro w';go_simp;with_reducible rfl
                     rotate_left
                     ·simp only [Act.put,List.setIfInBounds_toArray,List.set_cons_zero,List.set_cons_succ,i64_w,i32_w];rfl
                     refine pure_ (i := 10) (N := some 58) (v := ?_) (a' := ?_) #[true,true,true,true,true,false,true,false,false,true,true,false,false,false,false,false,false,false,false,false,false,false,false] rfl rfl (any_of HT_.out (by kernel_rfl)) (fun _ _ _ h => h) (Or.inl ⟨by rfl,?_⟩) ?_ ?_;rotate_left
                     ·intro w';go_simp;with_reducible rfl
                     rotate_left
                     ·simp only [Act.put,List.setIfInBounds_toArray,List.set_cons_zero,List.set_cons_succ,i64_w,i32_w];rfl
                     refine pure_ (i := 11) (N := some 59) (v := ?_) (a' := ?_) #[true,true,true,true,true,false,true,false,false,true,true,true,false,false,false,false,false,false,false,false,false,false,false] rfl rfl (any_of HT_.out (by kernel_rfl)) (fun _ _ _ h => h) (Or.inl ⟨by rfl,?_⟩) ?_ ?_;rotate_left
                     ·intro w';go_simp;with_reducible rfl
                     rotate_left
                     ·simp only [Act.put,List.setIfInBounds_toArray,List.set_cons_zero,List.set_cons_succ,i64_w,i32_w];rfl
                     refine pure_ (i := 12) (N := some 60) (v := ?_) (a' := ?_) #[true,true,true,true,true,false,true,false,false,true,true,true,true,false,false,false,false,false,false,false,false,false,false] rfl rfl (any_of HT_.out (by kernel_rfl)) (fun _ _ _ h => h) (Or.inl ⟨by rfl,?_⟩) ?_ ?_;rotate_left
                     ·intro w';go_simp;with_reducible rfl
                     rotate_left
                     ·simp only [Act.put,List.setIfInBounds_toArray,List.set_cons_zero,List.set_cons_succ,i64_w,i32_w];rfl
                     refine pure_ (i := 14) (N := some 62) (v := ?_) (a' := ?_) #[true,true,true,true,true,false,true,false,false,true,true,true,true,false,true,false,false,false,false,false,false,false,false] rfl rfl (any_of HT_.out (by kernel_rfl)) (fun _ _ _ h => h) (Or.inl ⟨by rfl,?_⟩) ?_ ?_;rotate_left
                     ·intro w';go_simp;with_reducible rfl
                     rotate_left
                     ·simp only [Act.put,List.setIfInBounds_toArray,List.set_cons_zero,List.set_cons_succ,i64_w,i32_w];rfl
                     refine pure_ (i := 15) (N := some 63) (v := ?_) (a' := ?_) #[true,true,true,true,true,false,true,false,false,true,true,true,true,false,true,true,false,false,false,false,false,false,false] rfl rfl (any_of HT_.out (by kernel_rfl)) (fun _ _ _ h => h) (Or.inl ⟨by rfl,?_⟩) ?_ ?_;rotate_left
                     ·intro w';go_simp;with_reducible rfl
                     rotate_left
                     ·simp only [Act.put,List.setIfInBounds_toArray,List.set_cons_zero,List.set_cons_succ,i64_w,i32_w];rfl
                     refine pure_ (i := 18) (N := some 66) (v := ?_) (a' := ?_) #[true,true,true,true,true,false,true,false,false,true,true,true,true,false,true,true,false,false,true,false,false,false,false] rfl rfl (any_of HT_.out (by kernel_rfl)) (fun _ _ _ h => h) (Or.inl ⟨by rfl,?_⟩) ?_ ?_;rotate_left
                     ·intro w';go_simp;with_reducible rfl
                     rotate_left
                     ·simp only [Act.put,List.setIfInBounds_toArray,List.set_cons_zero,List.set_cons_succ,i64_w,i32_w];rfl
                     refine take_ (i := 5) (N := some 53) (v := ?_) (a' := ?_) #[true,true,true,true,true,true,true,false,false,true,true,true,true,false,true,true,false,false,true,false,false,false,false] rfl rfl (take_ofW HT_.out HW_.out (by kernel_rfl)) (fun _ _ _ h => h) (Or.inl ⟨by rfl,?_⟩) hHeld ?_ ?_;rotate_left
                     ·rintro w' ⟨s0,s1,s2,s3⟩
                      go_simp;with_reducible rfl
                     rotate_left
                     ·simp only [Act.put,List.setIfInBounds_toArray,List.set_cons_zero,List.set_cons_succ,i64_w,i32_w];rfl
                     refine pure_ (i := 7) (N := some 55) (v := ?_) (a' := ?_) #[true,true,true,true,true,true,true,true,false,true,true,true,true,false,true,true,false,false,true,false,false,false,false] rfl rfl (any_of HT_.out (by kernel_rfl)) (fun _ _ _ h => h) (Or.inl ⟨by rfl,?_⟩) ?_ ?_;rotate_left
                     ·intro w';go_simp;with_reducible rfl
                     rotate_left
                     ·simp only [Act.put,List.setIfInBounds_toArray,List.set_cons_zero,List.set_cons_succ,i64_w,i32_w];rfl
                     refine take_ (i := 8) (N := some 56) (v := ?_) (a' := ?_) #[true,true,true,true,true,true,true,true,true,true,true,true,true,false,true,true,false,false,true,false,false,false,false] rfl rfl (take_ofW HT_.out HW_.out (by kernel_rfl)) (fun _ _ _ h => h) (Or.inl ⟨by rfl,?_⟩) hHeld ?_ ?_;rotate_left
                     ·rintro w' ⟨s0,s1,s2,s3⟩
                      go_simp;with_reducible rfl
                     rotate_left
                     ·simp only [Act.put,List.setIfInBounds_toArray,List.set_cons_zero,List.set_cons_succ,i64_w,i32_w];rfl
                     refine take_ (i := 13) (N := some 61) (v := ?_) (a' := ?_) #[true,true,true,true,true,true,true,true,true,true,true,true,true,true,true,true,false,false,true,false,false,false,false] rfl rfl (take_ofW HT_.out HW_.out (by kernel_rfl)) (fun _ _ _ h => h) (Or.inl ⟨by rfl,?_⟩) hHeld ?_ ?_;rotate_left
                     ·rintro w' ⟨s0,s1,s2,s3⟩
                      go_simp;with_reducible rfl
                     rotate_left
                     ·simp only [Act.put,List.setIfInBounds_toArray,List.set_cons_zero,List.set_cons_succ,i64_w,i32_w];rfl
                     refine pure_ (i := 16) (N := some 64) (v := ?_) (a' := ?_) #[true,true,true,true,true,true,true,true,true,true,true,true,true,true,true,true,true,false,true,false,false,false,false] rfl rfl (any_of HT_.out (by kernel_rfl)) (fun _ _ _ h => h) (Or.inl ⟨by rfl,?_⟩) ?_ ?_;rotate_left
                     ·intro w';go_simp;with_reducible rfl
                     rotate_left
                     ·simp only [Act.put,List.setIfInBounds_toArray,List.set_cons_zero,List.set_cons_succ,i64_w,i32_w];rfl
                     refine take_ (i := 17) (N := some 65) (v := ?_) (a' := ?_) #[true,true,true,true,true,true,true,true,true,true,true,true,true,true,true,true,true,true,true,false,false,false,false] rfl rfl (take_ofW HT_.out HW_.out (by kernel_rfl)) (fun _ _ _ h => h) (Or.inl ⟨by rfl,?_⟩) hHeld ?_ ?_;rotate_left
                     ·rintro w' ⟨s0,s1,s2,s3⟩
                      go_simp;with_reducible rfl
                     rotate_left
                     ·simp only [Act.put,List.setIfInBounds_toArray,List.set_cons_zero,List.set_cons_succ,i64_w,i32_w];rfl
                     refine pure_ (i := 19) (N := some 67) (v := ?_) (a' := ?_) #[true,true,true,true,true,true,true,true,true,true,true,true,true,true,true,true,true,true,true,true,false,false,false] rfl rfl (any_of HT_.out (by kernel_rfl)) (fun _ _ _ h => h) (Or.inl ⟨by rfl,?_⟩) ?_ ?_;rotate_left
                     ·intro w';go_simp;with_reducible rfl
                     rotate_left
                     ·simp only [Act.put,List.setIfInBounds_toArray,List.set_cons_zero,List.set_cons_succ,i64_w,i32_w];rfl
                     refine pure_ (i := 20) (N := some 68) (v := ?_) (a' := ?_) #[true,true,true,true,true,true,true,true,true,true,true,true,true,true,true,true,true,true,true,true,true,false,false] rfl rfl (any_of HT_.out (by kernel_rfl)) (fun _ _ _ h => h) (Or.inl ⟨by rfl,?_⟩) ?_ ?_;rotate_left
                     ·intro w';go_simp;with_reducible rfl
                     rotate_left
                     ·simp only [Act.put,List.setIfInBounds_toArray,List.set_cons_zero,List.set_cons_succ,i64_w,i32_w];rfl
                     refine pure_ (i := 21) (N := some 69) (v := ?_) (a' := ?_) #[true,true,true,true,true,true,true,true,true,true,true,true,true,true,true,true,true,true,true,true,true,true,false] rfl rfl (any_of HT_.out (by kernel_rfl)) (fun _ _ _ h => h) (Or.inl ⟨by rfl,?_⟩) ?_ ?_;rotate_left
                     ·intro w';go_simp;with_reducible rfl
                     rotate_left
                     ·simp only [Act.put,List.setIfInBounds_toArray,List.set_cons_zero,List.set_cons_succ,i64_w,i32_w];rfl
                     refine pure_ (i := 22) (N := some 9) (v := ?_) (a' := ?_) #[true,true,true,true,true,true,true,true,true,true,true,true,true,true,true,true,true,true,true,true,true,true,true] rfl rfl (any_of HT_.out (by kernel_rfl)) (fun _ _ _ h => h) (Or.inl ⟨by rfl,?_⟩) ?_ ?_;rotate_left
                     ·intro w';go_simp;with_reducible rfl
                     rotate_left
                     ·simp only [Act.put,List.setIfInBounds_toArray,List.set_cons_zero,List.set_cons_succ,i64_w,i32_w];rfl
                     refine done_ (done_of HT_.out (by kernel_rfl)) ?_;(try go_wp2)
                     go_meet
                     case rel => exact ⟨_,(((rd (rd_L6 t101 x7_1) x8_1) == (wrap64 ((rd (rd_L6 t101 (ji22)) (ji25)) + t109)))),(by first | rfl | (simp only [IntKind.wrap_i64,wrap64];done) | (simp;done) | (simp only [← hji22,← hji25] <;> (first | rfl | simp)) | (simp [*];done)),H',⟨by have := HK1.out;have := HJ6.out;have := HJ9.out;first | omega | exact Nat.le_refl _⟩,⟨by (with_reducible repeat (first | apply Kd.S_alloc | apply Kd.S_drewN | apply Kd.S_drew));exact HO_5.out⟩,⟨by (with_reducible repeat (first | apply Kd.R_alloc | apply Kd.R_drewN | apply Kd.R_drew));exact HO_6.out⟩,⟨by repeat (first | (with_reducible first | exact HB.out | apply below_alloc | apply pw_below_drewN | apply below_drew1) | exact HB.out)⟩⟩
                    ·rw [if_neg c27] at H;exact absurd H (by simp)
                   ·rw [if_neg c26] at H;exact absurd H (by simp)
                  ·rw [if_neg c24] at H;exact absurd H (by simp)
                 ·rw [if_neg c23] at H;exact absurd H (by simp)
                ·rw [if_neg c21] at H;exact absurd H (by simp)
               ·rw [if_neg c20] at H;exact absurd H (by simp)
              ·replace c19 := Bool.eq_false_iff.mpr c19;subst c19
               have H1 : (impl_story.j3 kj9 l0 l1 t101 x6_1 x7_1 x8_1 false) = some r := by rw [if_neg (show ¬ (false = true) by decide)] at H;exact H
               clear H;have H := H1;clear H1;have H' := Aside0.mk H;clear H;(try go_wp2);have n0_ := Aside0.mk (Kd.S_drew HO_5.out);have n1_ := Aside0.mk (Kd.R_drew HO_6.out);have n2_ := Aside0.mk (below_drew1 HB.out);clear HO_5;clear HO_6;clear HB;have HO_5 := n0_;have HO_6 := n1_;have HB := n2_;clear n0_ n1_ n2_;have p107 : 0 ≤ (x7_1 : Int) := of_decide_eq_true (by first | (with_reducible assumption) | assumption);have q107 : x7_1 < (l0.length : Int) := of_decide_eq_true (by first | (with_reducible assumption) | assumption);obtain ⟨ad107,e107,hx107_0,hx107_1,hx107_2⟩ := at_T73 HR0.out x7_1 p107 q107;have hw107_2 := hx107_2;have hw107_1 := hx107_1;have hw107_0 := hx107_0;cases e107;replace hx107_0 := (HB.out.cell (World.block_lt_of_cell? w _ hx107_0)).trans hx107_0;replace hx107_1 := (HB.out.cell (World.block_lt_of_cell? w _ hx107_1)).trans hx107_1;replace hx107_2 := (HB.out.cell (World.block_lt_of_cell? w _ hx107_2)).trans hx107_2;replace p107 := eq_true p107;replace q107 := eq_true q107;have p108 : 0 ≤ (x8_1 : Int) := of_decide_eq_true (by first | (with_reducible assumption) | assumption);have q108 : x8_1 < (l1.length : Int) := of_decide_eq_true (by first | (with_reducible assumption) | assumption);obtain ⟨ad108,e108,hx108_0,hx108_1,hx108_2⟩ := at_T73 HR1.out x8_1 p108 q108;have hw108_2 := hx108_2;have hw108_1 := hx108_1;have hw108_0 := hx108_0;cases e108;replace hx108_0 := (HB.out.cell (World.block_lt_of_cell? w _ hx108_0)).trans hx108_0;replace hx108_1 := (HB.out.cell (World.block_lt_of_cell? w _ hx108_1)).trans hx108_1;replace hx108_2 := (HB.out.cell (World.block_lt_of_cell? w _ hx108_2)).trans hx108_2;replace p108 := eq_true p108;replace q108 := eq_true q108;refine start_ (n := 14) (S := fun w' => w'.cell? (ad107.add ((x7_1).toNat * 3)) = some (.int .i64 ((rd_T73 l0 x7_1).f0)) ∧ w'.cell? ⟨(ad107.add ((x7_1).toNat * 3)).block,(ad107.add ((x7_1).toNat * 3)).off + 1,none⟩ = some (.int .i64 ((rd_T73 l0 x7_1).f1)) ∧ w'.cell? ⟨(ad107.add ((x7_1).toNat * 3)).block,(ad107.add ((x7_1).toNat * 3)).off + 2,none⟩ = some (.bool ((rd_T73 l0 x7_1).f2)) ∧ w'.cell? (ad108.add ((x8_1).toNat * 3)) = some (.int .i64 ((rd_T73 l1 x8_1).f0)) ∧ w'.cell? ⟨(ad108.add ((x8_1).toNat * 3)).block,(ad108.add ((x8_1).toNat * 3)).off + 1,none⟩ = some (.int .i64 ((rd_T73 l1 x8_1).f1)) ∧ w'.cell? ⟨(ad108.add ((x8_1).toNat * 3)).block,(ad108.add ((x8_1).toNat * 3)).off + 2,none⟩ = some (.bool ((rd_T73 l1 x8_1).f2))) (ds := []) #[false,false,false,false,false,false,false,false,false,false,false,false,false,false] (by kernel_rfl) rfl rfl ⟨((HB.out.cell (World.block_lt_of_cell? w _ hw107_0)).trans hw107_0),((HB.out.cell (World.block_lt_of_cell? w _ hw107_1)).trans hw107_1),((HB.out.cell (World.block_lt_of_cell? w _ hw107_2)).trans hw107_2),((HB.out.cell (World.block_lt_of_cell? w _ hw108_0)).trans hw108_0),((HB.out.cell (World.block_lt_of_cell? w _ hw108_1)).trans hw108_1),((HB.out.cell (World.block_lt_of_cell? w _ hw108_2)).trans hw108_2)⟩ (fun hHeld => ?_);refine with_tabW impl_story.tab5 impl_story.bits5 (fun HT_ HW_ => ?_);generalize wc.drew = w32 at HO_5 HO_6 HB hx107_0 hx107_1 hx107_2 hx108_0 hx108_1 hx108_2 hHeld ⊢;refine pure_ (i := 0) (N := some 37) (v := ?_) (a' := ?_) #[true,false,false,false,false,false,false,false,false,false,false,false,false,false] rfl rfl (any_of HT_.out (by kernel_rfl)) (fun _ _ _ h => h) (Or.inl ⟨by rfl,?_⟩) ?_ ?_;rotate_left
               ·intro w';go_simp;with_reducible rfl
               rotate_left
               ·simp only [Act.put,List.setIfInBounds_toArray,List.set_cons_zero,List.set_cons_succ,i64_w,i32_w];rfl
               refine pure_ (i := 1) (N := some 38) (v := ?_) (a' := ?_) #[true,true,false,false,false,false,false,false,false,false,false,false,false,false] rfl rfl (any_of HT_.out (by kernel_rfl)) (fun _ _ _ h => h) (Or.inl ⟨by rfl,?_⟩) ?_ ?_;rotate_left
               ·intro w';go_simp;with_reducible rfl
               rotate_left
               ·simp only [Act.put,List.setIfInBounds_toArray,List.set_cons_zero,List.set_cons_succ,i64_w,i32_w];rfl
               refine pure_ (i := 2) (N := some 39) (v := ?_) (a' := ?_) #[true,true,true,false,false,false,false,false,false,false,false,false,false,false] rfl rfl (any_of HT_.out (by kernel_rfl)) (fun _ _ _ h => h) (Or.inl ⟨by rfl,?_⟩) ?_ ?_;rotate_left
               ·intro w';go_simp;with_reducible rfl
               rotate_left
               ·simp only [Act.put,List.setIfInBounds_toArray,List.set_cons_zero,List.set_cons_succ,i64_w,i32_w];rfl
               refine pure_ (i := 4) (N := some 41) (v := ?_) (a' := ?_) #[true,true,true,false,true,false,false,false,false,false,false,false,false,false] rfl rfl (any_of HT_.out (by kernel_rfl)) (fun _ _ _ h => h) (Or.inl ⟨by rfl,?_⟩) ?_ ?_;rotate_left
               ·intro w';go_simp;with_reducible rfl
               rotate_left
               ·simp only [Act.put,List.setIfInBounds_toArray,List.set_cons_zero,List.set_cons_succ,i64_w,i32_w];rfl
               refine pure_ (i := 5) (N := some 42) (v := ?_) (a' := ?_) #[true,true,true,false,true,true,false,false,false,false,false,false,false,false] rfl rfl (any_of HT_.out (by kernel_rfl)) (fun _ _ _ h => h) (Or.inl ⟨by rfl,?_⟩) ?_ ?_;rotate_left
               ·intro w';go_simp;with_reducible rfl
               rotate_left
               ·simp only [Act.put,List.setIfInBounds_toArray,List.set_cons_zero,List.set_cons_succ,i64_w,i32_w];rfl
               refine pure_ (i := 6) (N := some 43) (v := ?_) (a' := ?_) #[true,true,true,false,true,true,true,false,false,false,false,false,false,false] rfl rfl (any_of HT_.out (by kernel_rfl)) (fun _ _ _ h => h) (Or.inl ⟨by rfl,?_⟩) ?_ ?_;rotate_left
               ·intro w';go_simp;with_reducible rfl
               rotate_left
               ·simp only [Act.put,List.setIfInBounds_toArray,List.set_cons_zero,List.set_cons_succ,i64_w,i32_w];rfl
               refine take_ (i := 3) (N := some 40) (v := ?_) (a' := ?_) #[true,true,true,true,true,true,true,false,false,false,false,false,false,false] rfl rfl (take_ofW HT_.out HW_.out (by kernel_rfl)) (fun _ _ _ h => h) (Or.inl ⟨by rfl,?_⟩) hHeld ?_ ?_;rotate_left
               ·rintro w' ⟨s0,s1,s2,s3,s4,s5⟩
                go_simp;with_reducible rfl
               rotate_left
               ·simp only [Act.put,List.setIfInBounds_toArray,List.set_cons_zero,List.set_cons_succ,i64_w,i32_w];rfl
               refine take_ (i := 7) (N := some 44) (v := ?_) (a' := ?_) #[true,true,true,true,true,true,true,true,false,false,false,false,false,false] rfl rfl (take_ofW HT_.out HW_.out (by kernel_rfl)) (fun _ _ _ h => h) (Or.inl ⟨by rfl,?_⟩) hHeld ?_ ?_;rotate_left
               ·rintro w' ⟨s0,s1,s2,s3,s4,s5⟩
                go_simp;with_reducible rfl
               rotate_left
               ·simp only [Act.put,List.setIfInBounds_toArray,List.set_cons_zero,List.set_cons_succ,i64_w,i32_w];rfl
               refine one_ (i := 8) (N := some 45) #[true,true,true,true,true,true,true,true,true,false,false,false,false,false] rfl rfl (one_of HT_.out (by kernel_rfl)) (by decide) (fun K hK => ?_);refine goes_ Try.func98 (by kernel_rfl) rfl #[.agg #[.int .i64 ((rd_T73 l0 x7_1).f0),.int .i64 ((rd_T73 l0 x7_1).f1),.bool ((rd_T73 l0 x7_1).f2)],.agg #[.int .i64 ((rd_T73 l1 x8_1).f0),.int .i64 ((rd_T73 l1 x8_1).f1),.bool ((rd_T73 l1 x8_1).f2)]] (by rfl) rfl rfl (by (try simp only [List.map_toArray,List.map_cons,List.map_nil]);first | done | rfl | (simp only [List.length_drop,List.length_take];rfl)) ?_
               with_reducible refine (impl_stepFaults.calls ((rd_T73 l0 x7_1).f0) ((rd_T73 l0 x7_1).f1) ((rd_T73 l0 x7_1).f2) ((rd_T73 l1 x8_1).f0) ((rd_T73 l1 x8_1).f1) ((rd_T73 l1 x8_1).f2) t109 false _ A18.out).mono ?_
               rintro e w33 ⟨rfl,hb⟩
               refine ⟨_,rfl,?_⟩;have n0_ := Aside0.mk (Kd.S_below (by (with_reducible repeat (first | apply Kd.S_alloc | apply Kd.S_drewN | apply Kd.S_drew));exact HO_5.out) hb);have n1_ := Aside0.mk (Kd.R_below (by (with_reducible repeat (first | apply Kd.R_alloc | apply Kd.R_drewN | apply Kd.R_drew));exact HO_6.out) hb);have n2_ := Aside0.mk (below_step (by repeat (first | (with_reducible first | exact HB.out | apply below_alloc | apply pw_below_drewN | apply below_drew1) | exact HB.out)) hb);clear HO_5;clear HO_6;clear HB;have HO_5 := n0_;have HO_6 := n1_;have HB := n2_;clear n0_ n1_ n2_;(try clear hb);(try clear hb2);(try clear hk);(try clear hi);refine hK.out _ _ ⟨((HB.out.cell (World.block_lt_of_cell? w _ hw107_0)).trans hw107_0),((HB.out.cell (World.block_lt_of_cell? w _ hw107_1)).trans hw107_1),((HB.out.cell (World.block_lt_of_cell? w _ hw107_2)).trans hw107_2),((HB.out.cell (World.block_lt_of_cell? w _ hw108_0)).trans hw108_0),((HB.out.cell (World.block_lt_of_cell? w _ hw108_1)).trans hw108_1),((HB.out.cell (World.block_lt_of_cell? w _ hw108_2)).trans hw108_2)⟩ (fun hHeld => ?_);clear hK K;refine norm_ (a' := ?_) ?_ ?_;rotate_left
               ·show Act.put _ (some 45) _ = _
                simp only [Act.put,List.setIfInBounds_toArray,List.set_cons_zero,List.set_cons_succ,i64_w,i32_w];rfl
               refine pure_ (i := 9) (N := some 36) (v := ?_) (a' := ?_) #[true,true,true,true,true,true,true,true,true,true,false,false,false,false] rfl rfl (any_of HT_.out (by kernel_rfl)) (fun _ _ _ h => h) (Or.inl ⟨by rfl,?_⟩) ?_ ?_;rotate_left
               ·intro w';go_simp;with_reducible rfl
               rotate_left
               ·simp only [Act.put,List.setIfInBounds_toArray,List.set_cons_zero,List.set_cons_succ,i64_w,i32_w];rfl
               refine pure_ (i := 10) (N := some 46) (v := ?_) (a' := ?_) #[true,true,true,true,true,true,true,true,true,true,true,false,false,false] rfl rfl (any_of HT_.out (by kernel_rfl)) (fun _ _ _ h => h) (Or.inl ⟨by rfl,?_⟩) ?_ ?_;rotate_left
               ·intro w';go_simp;with_reducible rfl
               rotate_left
               ·simp only [Act.put,List.setIfInBounds_toArray,List.set_cons_zero,List.set_cons_succ,i64_w,i32_w];rfl
               refine pure_ (i := 11) (N := some 47) (v := ?_) (a' := ?_) #[true,true,true,true,true,true,true,true,true,true,true,true,false,false] rfl rfl (any_of HT_.out (by kernel_rfl)) (fun _ _ _ h => h) (Or.inl ⟨by rfl,?_⟩) ?_ ?_;rotate_left
               ·intro w';go_simp;with_reducible rfl
               rotate_left
               ·simp only [Act.put,List.setIfInBounds_toArray,List.set_cons_zero,List.set_cons_succ,i64_w,i32_w];rfl
               refine pure_ (i := 12) (N := some 10) (v := ?_) (a' := ?_) #[true,true,true,true,true,true,true,true,true,true,true,true,true,false] rfl rfl (any_of HT_.out (by kernel_rfl)) (fun _ _ _ h => h) (Or.inl ⟨by rfl,?_⟩) ?_ ?_;rotate_left
               ·intro w';go_simp;with_reducible rfl
               rotate_left
               ·simp only [Act.put,List.setIfInBounds_toArray,List.set_cons_zero,List.set_cons_succ,i64_w,i32_w];rfl
               refine pure_ (i := 13) (N := some 11) (v := ?_) (a' := ?_) #[true,true,true,true,true,true,true,true,true,true,true,true,true,true] rfl rfl (any_of HT_.out (by kernel_rfl)) (fun _ _ _ h => h) (Or.inl ⟨by rfl,?_⟩) ?_ ?_;rotate_left
               ·intro w';go_simp;with_reducible rfl
               rotate_left
               ·simp only [Act.put,List.setIfInBounds_toArray,List.set_cons_zero,List.set_cons_succ,i64_w,i32_w];rfl
               refine done_ (done_of HT_.out (by kernel_rfl)) ?_;(try go_wp2);have n0_ := Aside0.mk (Kd.S_drew HO_5.out);have n1_ := Aside0.mk (Kd.R_drew HO_6.out);have n2_ := Aside0.mk (below_drew1 HB.out);clear HO_5;clear HO_6;clear HB;have HO_5 := n0_;have HO_6 := n1_;have HB := n2_;clear n0_ n1_ n2_;refine start_ (n := 23) (S := fun w' => True) (ds := []) #[false,false,false,false,false,false,false,false,false,false,false,false,false,false,false,false,false,false,false,false,false,false,false] (by kernel_rfl) rfl rfl trivial (fun hHeld => ?_);refine with_tabW impl_story.tab6 impl_story.bits6 (fun HT_ HW_ => ?_);generalize w33.drew = w34 at HO_5 HO_6 HB hHeld ⊢;refine pure_ (i := 0) (N := some 48) (v := ?_) (a' := ?_) #[true,false,false,false,false,false,false,false,false,false,false,false,false,false,false,false,false,false,false,false,false,false,false] rfl rfl (any_of HT_.out (by kernel_rfl)) (fun _ _ _ h => h) (Or.inl ⟨by rfl,?_⟩) ?_ ?_;rotate_left
               ·intro w';go_simp;with_reducible rfl
               rotate_left
               ·simp only [Act.put,List.setIfInBounds_toArray,List.set_cons_zero,List.set_cons_succ,i64_w,i32_w];rfl
               refine pure_ (i := 1) (N := some 49) (v := ?_) (a' := ?_) #[true,true,false,false,false,false,false,false,false,false,false,false,false,false,false,false,false,false,false,false,false,false,false] rfl rfl (any_of HT_.out (by kernel_rfl)) (fun _ _ _ h => h) (Or.inl ⟨by rfl,?_⟩) ?_ ?_;rotate_left
               ·intro w';go_simp;with_reducible rfl
               rotate_left
               ·simp only [Act.put,List.setIfInBounds_toArray,List.set_cons_zero,List.set_cons_succ,i64_w,i32_w];rfl
               refine pure_ (i := 2) (N := some 50) (v := undef) (a' := ?_) #[true,true,true,false,false,false,false,false,false,false,false,false,false,false,false,false,false,false,false,false,false,false,false] rfl rfl (any_of HT_.out (by kernel_rfl)) (fun _ _ _ h => h) (Or.inr ⟨by rfl,rfl⟩) ?_ ?_;rotate_left
               ·simp only [Act.put,List.setIfInBounds_toArray,List.set_cons_zero,List.set_cons_succ,i64_w,i32_w];rfl
               refine pure_ (i := 3) (N := some 51) (v := undef) (a' := ?_) #[true,true,true,true,false,false,false,false,false,false,false,false,false,false,false,false,false,false,false,false,false,false,false] rfl rfl (any_of HT_.out (by kernel_rfl)) (fun _ _ _ h => h) (Or.inr ⟨by rfl,rfl⟩) ?_ ?_;rotate_left
               ·simp only [Act.put,List.setIfInBounds_toArray,List.set_cons_zero,List.set_cons_succ,i64_w,i32_w];rfl
               refine pure_ (i := 4) (N := some 52) (v := undef) (a' := ?_) #[true,true,true,true,true,false,false,false,false,false,false,false,false,false,false,false,false,false,false,false,false,false,false] rfl rfl (any_of HT_.out (by kernel_rfl)) (fun _ _ _ h => h) (Or.inr ⟨by rfl,rfl⟩) ?_ ?_;rotate_left
               ·simp only [Act.put,List.setIfInBounds_toArray,List.set_cons_zero,List.set_cons_succ,i64_w,i32_w];rfl
               refine pure_ (i := 5) (N := some 53) (v := undef) (a' := ?_) #[true,true,true,true,true,true,false,false,false,false,false,false,false,false,false,false,false,false,false,false,false,false,false] rfl rfl (any_of HT_.out (by kernel_rfl)) (fun _ _ _ h => h) (Or.inr ⟨by rfl,rfl⟩) ?_ ?_;rotate_left
               ·simp only [Act.put,List.setIfInBounds_toArray,List.set_cons_zero,List.set_cons_succ,i64_w,i32_w];rfl
               refine pure_ (i := 6) (N := some 54) (v := undef) (a' := ?_) #[true,true,true,true,true,true,true,false,false,false,false,false,false,false,false,false,false,false,false,false,false,false,false] rfl rfl (any_of HT_.out (by kernel_rfl)) (fun _ _ _ h => h) (Or.inr ⟨by rfl,rfl⟩) ?_ ?_;rotate_left
               ·simp only [Act.put,List.setIfInBounds_toArray,List.set_cons_zero,List.set_cons_succ,i64_w,i32_w];rfl
               refine pure_ (i := 7) (N := some 55) (v := undef) (a' := ?_) #[true,true,true,true,true,true,true,true,false,false,false,false,false,false,false,false,false,false,false,false,false,false,false] rfl rfl (any_of HT_.out (by kernel_rfl)) (fun _ _ _ h => h) (Or.inr ⟨by rfl,rfl⟩) ?_ ?_;rotate_left
               ·simp only [Act.put,List.setIfInBounds_toArray,List.set_cons_zero,List.set_cons_succ,i64_w,i32_w];rfl
               refine pure_ (i := 8) (N := some 56) (v := undef) (a' := ?_) #[true,true,true,true,true,true,true,true,true,false,false,false,false,false,false,false,false,false,false,false,false,false,false] rfl rfl (any_of HT_.out (by kernel_rfl)) (fun _ _ _ h => h) (Or.inr ⟨by rfl,rfl⟩) ?_ ?_;rotate_left
               ·simp only [Act.put,List.setIfInBounds_toArray,List.set_cons_zero,List.set_cons_succ,i64_w,i32_w];rfl
               refine pure_ (i := 9) (N := some 57) (v := undef) (a' := ?_) #[true,true,true,true,true,true,true,true,true,true,false,false,false,false,false,false,false,false,false,false,false,false,false] rfl rfl (any_of HT_.out (by kernel_rfl)) (fun _ _ _ h => h) (Or.inr ⟨by rfl,rfl⟩) ?_ ?_;rotate_left
               ·simp only [Act.put,List.setIfInBounds_toArray,List.set_cons_zero,List.set_cons_succ,i64_w,i32_w];rfl
               refine pure_ (i := 10) (N := some 58) (v := undef) (a' := ?_) #[true,true,true,true,true,true,true,true,true,true,true,false,false,false,false,false,false,false,false,false,false,false,false] rfl rfl (any_of HT_.out (by kernel_rfl)) (fun _ _ _ h => h) (Or.inr ⟨by rfl,rfl⟩) ?_ ?_;rotate_left
               ·simp only [Act.put,List.setIfInBounds_toArray,List.set_cons_zero,List.set_cons_succ,i64_w,i32_w];rfl
               refine pure_ (i := 11) (N := some 59) (v := undef) (a' := ?_) #[true,true,true,true,true,true,true,true,true,true,true,true,false,false,false,false,false,false,false,false,false,false,false] rfl rfl (any_of HT_.out (by kernel_rfl)) (fun _ _ _ h => h) (Or.inr ⟨by rfl,rfl⟩) ?_ ?_;rotate_left
               ·simp only [Act.put,List.setIfInBounds_toArray,List.set_cons_zero,List.set_cons_succ,i64_w,i32_w];rfl
               refine pure_ (i := 12) (N := some 60) (v := undef) (a' := ?_) #[true,true,true,true,true,true,true,true,true,true,true,true,true,false,false,false,false,false,false,false,false,false,false] rfl rfl (any_of HT_.out (by kernel_rfl)) (fun _ _ _ h => h) (Or.inr ⟨by rfl,rfl⟩) ?_ ?_;rotate_left
               ·simp only [Act.put,List.setIfInBounds_toArray,List.set_cons_zero,List.set_cons_succ,i64_w,i32_w];rfl
               refine pure_ (i := 13) (N := some 61) (v := undef) (a' := ?_) #[true,true,true,true,true,true,true,true,true,true,true,true,true,true,false,false,false,false,false,false,false,false,false] rfl rfl (any_of HT_.out (by kernel_rfl)) (fun _ _ _ h => h) (Or.inr ⟨by rfl,rfl⟩) ?_ ?_;rotate_left
               ·simp only [Act.put,List.setIfInBounds_toArray,List.set_cons_zero,List.set_cons_succ,i64_w,i32_w];rfl
               refine pure_ (i := 14) (N := some 62) (v := undef) (a' := ?_) #[true,true,true,true,true,true,true,true,true,true,true,true,true,true,true,false,false,false,false,false,false,false,false] rfl rfl (any_of HT_.out (by kernel_rfl)) (fun _ _ _ h => h) (Or.inr ⟨by rfl,rfl⟩) ?_ ?_;rotate_left
               ·simp only [Act.put,List.setIfInBounds_toArray,List.set_cons_zero,List.set_cons_succ,i64_w,i32_w];rfl
               refine pure_ (i := 15) (N := some 63) (v := undef) (a' := ?_) #[true,true,true,true,true,true,true,true,true,true,true,true,true,true,true,true,false,false,false,false,false,false,false] rfl rfl (any_of HT_.out (by kernel_rfl)) (fun _ _ _ h => h) (Or.inr ⟨by rfl,rfl⟩) ?_ ?_;rotate_left
               ·simp only [Act.put,List.setIfInBounds_toArray,List.set_cons_zero,List.set_cons_succ,i64_w,i32_w];rfl
               refine pure_ (i := 16) (N := some 64) (v := undef) (a' := ?_) #[true,true,true,true,true,true,true,true,true,true,true,true,true,true,true,true,true,false,false,false,false,false,false] rfl rfl (any_of HT_.out (by kernel_rfl)) (fun _ _ _ h => h) (Or.inr ⟨by rfl,rfl⟩) ?_ ?_;rotate_left
               ·simp only [Act.put,List.setIfInBounds_toArray,List.set_cons_zero,List.set_cons_succ,i64_w,i32_w];rfl
               refine pure_ (i := 17) (N := some 65) (v := undef) (a' := ?_) #[true,true,true,true,true,true,true,true,true,true,true,true,true,true,true,true,true,true,false,false,false,false,false] rfl rfl (any_of HT_.out (by kernel_rfl)) (fun _ _ _ h => h) (Or.inr ⟨by rfl,rfl⟩) ?_ ?_;rotate_left
               ·simp only [Act.put,List.setIfInBounds_toArray,List.set_cons_zero,List.set_cons_succ,i64_w,i32_w];rfl
               refine pure_ (i := 18) (N := some 66) (v := undef) (a' := ?_) #[true,true,true,true,true,true,true,true,true,true,true,true,true,true,true,true,true,true,true,false,false,false,false] rfl rfl (any_of HT_.out (by kernel_rfl)) (fun _ _ _ h => h) (Or.inr ⟨by rfl,rfl⟩) ?_ ?_;rotate_left
               ·simp only [Act.put,List.setIfInBounds_toArray,List.set_cons_zero,List.set_cons_succ,i64_w,i32_w];rfl
               refine pure_ (i := 19) (N := some 67) (v := undef) (a' := ?_) #[true,true,true,true,true,true,true,true,true,true,true,true,true,true,true,true,true,true,true,true,false,false,false] rfl rfl (any_of HT_.out (by kernel_rfl)) (fun _ _ _ h => h) (Or.inr ⟨by rfl,rfl⟩) ?_ ?_;rotate_left
               ·simp only [Act.put,List.setIfInBounds_toArray,List.set_cons_zero,List.set_cons_succ,i64_w,i32_w];rfl
               refine pure_ (i := 20) (N := some 68) (v := undef) (a' := ?_) #[true,true,true,true,true,true,true,true,true,true,true,true,true,true,true,true,true,true,true,true,true,false,false] rfl rfl (any_of HT_.out (by kernel_rfl)) (fun _ _ _ h => h) (Or.inr ⟨by rfl,rfl⟩) ?_ ?_;rotate_left
               ·simp only [Act.put,List.setIfInBounds_toArray,List.set_cons_zero,List.set_cons_succ,i64_w,i32_w];rfl
               refine pure_ (i := 21) (N := some 69) (v := ?_) (a' := ?_) #[true,true,true,true,true,true,true,true,true,true,true,true,true,true,true,true,true,true,true,true,true,true,false] rfl rfl (any_of HT_.out (by kernel_rfl)) (fun _ _ _ h => h) (Or.inl ⟨by rfl,?_⟩) ?_ ?_;rotate_left
               ·intro w';go_simp;with_reducible rfl
               rotate_left
               ·simp only [Act.put,List.setIfInBounds_toArray,List.set_cons_zero,List.set_cons_succ,i64_w,i32_w];rfl
               refine pure_ (i := 22) (N := some 9) (v := ?_) (a' := ?_) #[true,true,true,true,true,true,true,true,true,true,true,true,true,true,true,true,true,true,true,true,true,true,true] rfl rfl (any_of HT_.out (by kernel_rfl)) (fun _ _ _ h => h) (Or.inl ⟨by rfl,?_⟩) ?_ ?_;rotate_left
               ·intro w';go_simp;with_reducible rfl
               rotate_left
               ·simp only [Act.put,List.setIfInBounds_toArray,List.set_cons_zero,List.set_cons_succ,i64_w,i32_w];rfl
               refine done_ (done_of HT_.out (by kernel_rfl)) ?_;(try go_wp2)
               go_meet
               case rel => exact ⟨_,(false),(by first | rfl | (simp only [IntKind.wrap_i64,wrap64];done) | (simp;done) | (simp [*];done)),H',⟨by have := HK1.out;have := HJ6.out;have := HJ9.out;first | omega | exact Nat.le_refl _⟩,⟨by (with_reducible repeat (first | apply Kd.S_alloc | apply Kd.S_drewN | apply Kd.S_drew));exact HO_5.out⟩,⟨by (with_reducible repeat (first | apply Kd.R_alloc | apply Kd.R_drewN | apply Kd.R_drew));exact HO_6.out⟩,⟨by repeat (first | (with_reducible first | exact HB.out | apply below_alloc | apply pw_below_drewN | apply below_drew1) | exact HB.out)⟩⟩
             ·rw [if_neg c17] at H;exact absurd H (by simp)
            ·rw [if_neg c16] at H;exact absurd H (by simp)
           ·rw [if_neg c15] at H;exact absurd H (by simp)
          ·rw [if_neg c14] at H;exact absurd H (by simp)
         ·replace c13 := Bool.eq_false_iff.mpr c13;subst c13
          have H1 : (impl_story.j3 kj9 l0 l1 t101 x6_1 x7_1 x8_1 false) = some r := by rw [if_neg (show ¬ (false = true) by decide)] at H;exact H
          clear H;have H := H1;clear H1;have H' := Aside0.mk H;clear H
          go_wp2
          go_meet
          case rel => exact ⟨_,(false),(by first | rfl | (simp only [IntKind.wrap_i64,wrap64];done) | (simp;done) | (simp [*];done)),H',⟨by have := HK1.out;have := HJ6.out;have := HJ9.out;first | omega | exact Nat.le_refl _⟩,⟨by (with_reducible repeat (first | apply Kd.S_alloc | apply Kd.S_drewN | apply Kd.S_drew));exact HO_5.out⟩,⟨by (with_reducible repeat (first | apply Kd.R_alloc | apply Kd.R_drewN | apply Kd.R_drew));exact HO_6.out⟩,⟨by repeat (first | (with_reducible first | exact HB.out | apply below_alloc | apply pw_below_drewN | apply below_drew1) | exact HB.out)⟩⟩
        case rest =>
         clear HC12;(try clear c1);(try clear p1);(try clear q1);(try clear hx1);(try clear c2);(try clear p2);(try clear p6);(try clear c9);(try clear p10);(try clear q10);(try clear hx10);(try clear c11);(try clear p11);(try clear q11);(try clear hx11);(try clear c13);(try clear c14);(try clear c15);(try clear c16);(try clear c17);(try clear c19);(try clear c20);(try clear c21);(try clear c23);(try clear c24);(try clear c26);(try clear c27);(try clear hx107_0);(try clear hx107_1);(try clear hx107_2);(try clear hx108_0);(try clear hx108_1);(try clear hx108_2);(try clear hx111_0);(try clear hx112_0);(try clear hx113_0);(try clear hx114_0);(try clear p107);(try clear p108);(try clear p111);(try clear p112);(try clear p113);(try clear p114);(try clear q107);(try clear q108);(try clear q111);(try clear q112);(try clear q113);(try clear q114);obtain ⟨kq,x9_11,rfl,HA,HJ11,HO_5,HO_6,HB⟩ := hcut
         cases kq with
         | zero => exact absurd HA.out (by simp [impl_story.j3])
         | succ kj11 =>
          have H := HA.out;clear HA;simp only [impl_story.j3] at H
          by_cases c35 : x9_11 = true
          ·subst c35
           have H1 : (if x6_1.length < 8796093022208 then (impl_story.l0 kj11 l0 l1 t101 (x6_1 ++ [(⟨x7_1,x8_1⟩ : S100)]) (wrap64 (x7_1 + 1)) (wrap64 (x8_1 + 1))) else (none)) = some r := by rw [if_pos rfl] at H;exact H
           clear H;have H := H1;clear H1
           by_cases c36 : x6_1.length < 8796093022208
           ·rw [if_pos c36] at H;have LMc36 := Aside0.mk c36;clear c36;obtain ⟨y115,hy115⟩ : ∃ y_ : List (S100),y_ = (x6_1 ++ [(⟨x7_1,x8_1⟩ : S100)]) := ⟨_,rfl⟩
            replace H : (impl_story.l0 kj11 l0 l1 t101 y115 (wrap64 (x7_1 + 1)) (wrap64 (x8_1 + 1))) = some r := by first | (rw [hy115];with_reducible exact H) | (have H2_ := (Option.bind_some _ _).symm.trans H;rw [hy115];with_reducible exact H2_) | (have H2_ := (Option.bind_some _ _).symm.trans H;with_reducible exact H2_) | with_reducible exact H | (rw [hy115];exact H) | exact H
            have Ny115 := Aside0.mk hy115;clear hy115;have H' := Aside0.mk H;clear H
            go_wp2_with (first | ((with_reducible refine gate_builtin (b := .append) (xs := #[.tmp 79,.tmp 83]) rfl ?_);(try (refine gate_guard (by rfl) ?_;dsimp only));at_builtin;refine Kd.R_append k100 (w0 := w) w.heap.size rfl (.tmp 79) (.tmp 83) 52 100 (.agg #[(.int .i64 0),(.int .i64 0)]) 16 rfl Try.underlying52 info100 rfl (by decide) (by omega) u6 x6_1 (⟨x7_1,x8_1⟩ : S100) [.int .i64 x7_1,.int .i64 x8_1] (fun _ => True) (fun _ => False) rfl rfl ?aP (fun _ hk => hk.elim) ?aF ?aO ?aB ?aS ?aL ?_;(case aP => exact k100_mkM _ _ _ (⟨x7_1,x8_1⟩ : S100));(case aB => exact (by repeat (first | (with_reducible first | exact HB.out | apply below_alloc | apply pw_below_drewN | apply below_drew1) | exact HB.out)));(case aF => exact (fun _ _ => trivial));(case aO => exact (by (with_reducible repeat (first | apply Kd.R_alloc | apply Kd.R_drewN | apply Kd.R_drew));exact HO_6.out));(case aS => exact (below_size (by repeat (first | (with_reducible first | exact HB.out | apply below_alloc | apply pw_below_drewN | apply below_drew1) | exact HB.out))));(case aL => have := LMc36.out;omega);intro v116 w37 ho hb hg hat;rw [← Ny115.out] at ho;have n0_ := Aside0.mk (Kd.S_over' (by (with_reducible repeat (first | apply Kd.S_alloc | apply Kd.S_drewN | apply Kd.S_drew));exact HO_5.out) (Kd.R_typed (by (with_reducible repeat (first | apply Kd.R_alloc | apply Kd.R_drewN | apply Kd.R_drew));exact HO_6.out)) (by decide) hg);have n1_ := Aside0.mk (hb);have n2_ := Aside0.mk (ho);clear HO_5;clear HB;clear HO_6;have HO_5 := n0_;have HB := n1_;have HO117 := n2_;clear n0_ n1_ n2_;clear ho hb hg hat))
            go_roundg kj11
            case measure => have := HK1.out;have := HJ6.out;have := HJ9.out;have := HJ11.out;omega
            case rel => exact ⟨(y115),(wrap64 (x7_1 + 1)),(wrap64 (x8_1 + 1)),(by first | rfl | (simp only [IntKind.wrap_i64,wrap64];done) | (simp;done) | (simp [*];done)),(by first | rfl | (simp only [IntKind.wrap_i64,wrap64];done) | (simp;done) | (simp [*];done)),H',⟨by have := HK1.out;have := HJ6.out;have := HJ9.out;have := HJ11.out;omega⟩,⟨by (with_reducible repeat (first | apply Kd.S_alloc | apply Kd.S_drewN | apply Kd.S_drew));exact HO_5.out⟩,⟨by (with_reducible repeat (first | apply Kd.R_alloc | apply Kd.R_drewN | apply Kd.R_drew));exact HO117.out⟩,⟨by repeat (first | (with_reducible first | exact HB.out | apply below_alloc | apply pw_below_drewN | apply below_drew1) | exact HB.out)⟩⟩
           ·rw [if_neg c36] at H;exact absurd H (by simp)
          ·replace c35 := Bool.eq_false_iff.mpr c35;subst c35
           have H1 : (if x7_1 < (l0.length : Int) then (if 0 ≤ x7_1 then (if x7_1 < (t101.length : Int) then (if 0 ≤ x8_1 then (if x8_1 < ((rd_L6 t101 x7_1).length : Int) then (if 0 ≤ (wrap64 (x7_1 + 1)) then (if (wrap64 (x7_1 + 1)) < (t101.length : Int) then (if x8_1 < ((rd_L6 t101 (wrap64 (x7_1 + 1))).length : Int) then (if (rd (rd_L6 t101 x7_1) x8_1) = (wrap64 ((rd (rd_L6 t101 (wrap64 (x7_1 + 1))) x8_1) + 1)) then (if x6_1.length < 8796093022208 then (impl_story.l0 kj11 l0 l1 t101 (x6_1 ++ [(⟨x7_1,(-1)⟩ : S100)]) (wrap64 (x7_1 + 1)) x8_1) else (none)) else (if x6_1.length < 8796093022208 then (impl_story.l0 kj11 l0 l1 t101 (x6_1 ++ [(⟨(-1),x8_1⟩ : S100)]) x7_1 (wrap64 (x8_1 + 1))) else (none))) else (none)) else (none)) else (none)) else (none)) else (none)) else (none)) else (none)) else (if x6_1.length < 8796093022208 then (impl_story.l0 kj11 l0 l1 t101 (x6_1 ++ [(⟨(-1),x8_1⟩ : S100)]) x7_1 (wrap64 (x8_1 + 1))) else (none))) = some r := by rw [if_neg (show ¬ (false = true) by decide)] at H;exact H
           clear H;have H := H1;clear H1
           by_cases c38 : x7_1 < (l0.length : Int)
           ·rw [if_pos c38] at H;have c38b0 : decide (x7_1 < (l0.length : Int)) = true := decide_eq_true c38;clear c38
            by_cases c39 : 0 ≤ x7_1
            ·rw [if_pos c39] at H;have c39b0 : decide (0 ≤ x7_1) = true := decide_eq_true c39;clear c39
             by_cases c40 : x7_1 < (t101.length : Int)
             ·rw [if_pos c40] at H;have c40b0 : decide (x7_1 < (t101.length : Int)) = true := decide_eq_true c40;clear c40
              by_cases c41 : 0 ≤ x8_1
              ·rw [if_pos c41] at H;have c41b0 : decide (0 ≤ x8_1) = true := decide_eq_true c41;clear c41
               by_cases c42 : x8_1 < ((rd_L6 t101 x7_1).length : Int)
               ·rw [if_pos c42] at H;have c42b0 : decide (x8_1 < ((rd_L6 t101 x7_1).length : Int)) = true := decide_eq_true c42;clear c42;obtain ⟨ji43,hji43⟩ : ∃ j_ : Int,(wrap64 (x7_1 + 1)) = j_ := ⟨_,rfl⟩
                replace H : (if 0 ≤ (ji43) then (if (ji43) < (t101.length : Int) then (if x8_1 < ((rd_L6 t101 (ji43)).length : Int) then (if (rd (rd_L6 t101 x7_1) x8_1) = (wrap64 ((rd (rd_L6 t101 (ji43)) x8_1) + 1)) then (if x6_1.length < 8796093022208 then (impl_story.l0 kj11 l0 l1 t101 (x6_1 ++ [(⟨x7_1,(-1)⟩ : S100)]) ji43 x8_1) else (none)) else (if x6_1.length < 8796093022208 then (impl_story.l0 kj11 l0 l1 t101 (x6_1 ++ [(⟨(-1),x8_1⟩ : S100)]) x7_1 (wrap64 (x8_1 + 1))) else (none))) else (none)) else (none)) else (none)) = some r := by first | (rw [hji43] at H;exact H) | (simp only [hji43] at H ⊢;exact H)
                have hji43w : (IntKind.i64.wrap (x7_1 + 1)) = ji43 := (i64_w _).trans hji43
                by_cases c44 : 0 ≤ (ji43)
                ·rw [if_pos c44] at H;have c44b0 : decide (0 ≤ (ji43)) = true := decide_eq_true c44;clear c44
                 by_cases c45 : (ji43) < (t101.length : Int)
                 ·rw [if_pos c45] at H;have c45b0 : decide ((ji43) < (t101.length : Int)) = true := decide_eq_true c45;clear c45
                  by_cases c46 : x8_1 < ((rd_L6 t101 (ji43)).length : Int)
                  ·rw [if_pos c46] at H;have c46b0 : decide (x8_1 < ((rd_L6 t101 (ji43)).length : Int)) = true := decide_eq_true c46;clear c46
                   by_cases c47 : (rd (rd_L6 t101 x7_1) x8_1) = (wrap64 ((rd (rd_L6 t101 (ji43)) x8_1) + 1))
                   ·rw [if_pos c47] at H;have c47b0 : ((rd (rd_L6 t101 x7_1) x8_1) == (wrap64 ((rd (rd_L6 t101 (ji43)) x8_1) + 1))) = true := beq_iff_eq.mpr c47;have c47b1 : ((rd (rd_L6 t101 x7_1) x8_1) != (wrap64 ((rd (rd_L6 t101 (ji43)) x8_1) + 1))) = false := bne_eq_false_iff_eq.mpr c47;clear c47
                    by_cases c48 : x6_1.length < 8796093022208
                    ·rw [if_pos c48] at H;have LMc48 := Aside0.mk c48;clear c48;obtain ⟨y122,hy122⟩ : ∃ y_ : List (S100),y_ = (x6_1 ++ [(⟨x7_1,(-1)⟩ : S100)]) := ⟨_,rfl⟩
                     replace H : (impl_story.l0 kj11 l0 l1 t101 y122 ji43 x8_1) = some r := by first | (rw [hy122];with_reducible exact H) | (have H2_ := (Option.bind_some _ _).symm.trans H;rw [hy122];with_reducible exact H2_) | (have H2_ := (Option.bind_some _ _).symm.trans H;with_reducible exact H2_) | with_reducible exact H | (rw [hy122];exact H) | exact H
                     have Ny122 := Aside0.mk hy122;clear hy122;have H' := Aside0.mk H;clear H;(try go_wp2);have n0_ := Aside0.mk (Kd.S_drew HO_5.out);have n1_ := Aside0.mk (Kd.R_drew HO_6.out);have n2_ := Aside0.mk (below_drew1 HB.out);clear HO_5;clear HO_6;clear HB;have HO_5 := n0_;have HO_6 := n1_;have HB := n2_;clear n0_ n1_ n2_;obtain ⟨Ao50,co50,eo50⟩ := Kd.S_slice HO_5.out;(first | subst eo50 | (injection eo50 with f1_ f2_ f3_;have f4_ := f1_.symm;have f5_ := f3_.symm;clear f1_ f2_ f3_;subst f4_;subst f5_));have p118 : 0 ≤ (x7_1 : Int) := of_decide_eq_true (by first | (with_reducible assumption) | assumption);have q118 : x7_1 < (t101.length : Int) := of_decide_eq_true (by first | (with_reducible assumption) | assumption);obtain ⟨ad118,A118_0,c118_0,e118,hx118_0,hl118_0,hi118_0⟩ := at_L6 (Kd.S_reads' HO_5.out).2.2 x7_1 p118 q118;cases e118;obtain ⟨ce118,hce118,hMe118,hcc118⟩ := Kd.S_get HO_5.out [] x7_1 p118 (by first | exact q118 | exact of_decide_eq_true (by first | (with_reducible assumption) | assumption) | (have e_ := (Kd.S_reads' HO_5.out).1;omega));obtain ⟨ve118_0,rfl,ge118_0⟩ := hMe118;have hv118_0 := hcc118 0 _ rfl;rw [Nat.add_zero,show ((Kd.slice 2 (Kd.int .i64))).sz = 1 from rfl,Nat.mul_one] at hv118_0;replace hv118_0 := Option.some.inj (hv118_0.symm.trans hx118_0);rw [hv118_0] at ge118_0;have HL118_0 := Aside0.mk (show Kd.R (Kd.int .i64) 2 _ _ _ _ (rd_L6 t101 x7_1) from ge118_0);clear hv118_0 ge118_0;clear hcc118 hce118;have HR118_0 := Aside0.mk hi118_0;have HC118_0 := Aside0.mk hl118_0;clear hi118_0 hl118_0;replace p118 := eq_true p118;replace q118 := eq_true q118;have p119 : 0 ≤ (x8_1 : Int) := of_decide_eq_true (by first | (with_reducible assumption) | assumption);have q119 : x8_1 < ((rd_L6 t101 x7_1).length : Int) := of_decide_eq_true (by first | (with_reducible assumption) | assumption);obtain ⟨ad119,e119,hx119_0⟩ := Kd.at_int (by repeat (first | (with_reducible exact HR118_0.out) | (with_reducible refine Kd.C_alloc ?_ _) | (with_reducible refine Kd.C_drewN ?_ _) | (with_reducible refine Kd.C_drew ?_) | exact HR118_0.out)) x8_1 p119 q119;cases e119;replace p119 := eq_true p119;replace q119 := eq_true q119;have p120 : 0 ≤ ((ji43) : Int) := of_decide_eq_true (by first | (with_reducible assumption) | assumption);have q120 : (ji43) < (t101.length : Int) := of_decide_eq_true (by first | (with_reducible assumption) | assumption);obtain ⟨ad120,A120_0,c120_0,e120,hx120_0,hl120_0,hi120_0⟩ := at_L6 (Kd.S_reads' HO_5.out).2.2 (ji43) p120 q120;obtain rfl : ad118 = ad120 := (by injection e120);obtain ⟨ce120,hce120,hMe120,hcc120⟩ := Kd.S_get HO_5.out [] (ji43) p120 (by first | exact q120 | exact of_decide_eq_true (by first | (with_reducible assumption) | assumption) | (have e_ := (Kd.S_reads' HO_5.out).1;omega));obtain ⟨ve120_0,rfl,ge120_0⟩ := hMe120;have hv120_0 := hcc120 0 _ rfl;rw [Nat.add_zero,show ((Kd.slice 2 (Kd.int .i64))).sz = 1 from rfl,Nat.mul_one] at hv120_0;replace hv120_0 := Option.some.inj (hv120_0.symm.trans hx120_0);rw [hv120_0] at ge120_0;have HL120_0 := Aside0.mk (show Kd.R (Kd.int .i64) 2 _ _ _ _ (rd_L6 t101 (ji43)) from ge120_0);clear hv120_0 ge120_0;clear hcc120 hce120;have HR120_0 := Aside0.mk hi120_0;have HC120_0 := Aside0.mk hl120_0;clear hi120_0 hl120_0;replace p120 := eq_true p120;replace q120 := eq_true q120;have p121 : 0 ≤ (x8_1 : Int) := of_decide_eq_true (by first | (with_reducible assumption) | assumption);have q121 : x8_1 < ((rd_L6 t101 (ji43)).length : Int) := of_decide_eq_true (by first | (with_reducible assumption) | assumption);obtain ⟨ad121,e121,hx121_0⟩ := Kd.at_int (by repeat (first | (with_reducible exact HR120_0.out) | (with_reducible refine Kd.C_alloc ?_ _) | (with_reducible refine Kd.C_drewN ?_ _) | (with_reducible refine Kd.C_drew ?_) | exact HR120_0.out)) x8_1 p121 q121;cases e121;replace p121 := eq_true p121;replace q121 := eq_true q121;refine start_ (n := 24) (S := fun w' => w'.cell? (ad118.add (x7_1).toNat) = some (.slice (some ad119) (rd_L6 t101 x7_1).length c118_0) ∧ w'.cell? (ad119.add (x8_1).toNat) = some (.int .i64 (rd (rd_L6 t101 x7_1) x8_1)) ∧ w'.cell? (ad118.add ((ji43)).toNat) = some (.slice (some ad121) (rd_L6 t101 (ji43)).length c120_0) ∧ w'.cell? (ad121.add (x8_1).toNat) = some (.int .i64 (rd (rd_L6 t101 (ji43)) x8_1))) (ds := []) #[false,false,false,false,false,false,false,false,false,false,false,false,false,false,false,false,false,false,false,false,false,false,false,false] (by kernel_rfl) rfl rfl ⟨hx118_0,hx119_0,hx120_0,hx121_0⟩ (fun hHeld => ?_);refine with_tabW impl_story.tab12 impl_story.bits12 (fun HT_ HW_ => ?_);generalize wc.drew = w49 at HO_5 HO_6 HB HL118_0 HL120_0 HR118_0 HR120_0 hx118_0 hx119_0 hx120_0 hx121_0 hHeld ⊢;refine pure_ (i := 0) (N := some 90) (v := ?_) (a' := ?_) #[true,false,false,false,false,false,false,false,false,false,false,false,false,false,false,false,false,false,false,false,false,false,false,false] rfl rfl (any_of HT_.out (by kernel_rfl)) (fun _ _ _ h => h) (Or.inl ⟨by rfl,?_⟩) ?_ ?_;rotate_left
                     ·intro w';go_simp;with_reducible rfl
                     rotate_left
                     ·simp only [Act.put,List.setIfInBounds_toArray,List.set_cons_zero,List.set_cons_succ,i64_w,i32_w];rfl
                     refine pure_ (i := 1) (N := some 91) (v := ?_) (a' := ?_) #[true,true,false,false,false,false,false,false,false,false,false,false,false,false,false,false,false,false,false,false,false,false,false,false] rfl rfl (any_of HT_.out (by kernel_rfl)) (fun _ _ _ h => h) (Or.inl ⟨by rfl,?_⟩) ?_ ?_;rotate_left
                     ·intro w';go_simp;with_reducible rfl
                     rotate_left
                     ·simp only [Act.put,List.setIfInBounds_toArray,List.set_cons_zero,List.set_cons_succ,i64_w,i32_w];rfl
                     refine pure_ (i := 2) (N := some 92) (v := ?_) (a' := ?_) #[true,true,true,false,false,false,false,false,false,false,false,false,false,false,false,false,false,false,false,false,false,false,false,false] rfl rfl (any_of HT_.out (by kernel_rfl)) (fun _ _ _ h => h) (Or.inl ⟨by rfl,?_⟩) ?_ ?_;rotate_left
                     ·intro w';go_simp;with_reducible rfl
                     rotate_left
                     ·simp only [Act.put,List.setIfInBounds_toArray,List.set_cons_zero,List.set_cons_succ,i64_w,i32_w];rfl
                     refine pure_ (i := 3) (N := some 93) (v := ?_) (a' := ?_) #[true,true,true,true,false,false,false,false,false,false,false,false,false,false,false,false,false,false,false,false,false,false,false,false] rfl rfl (any_of HT_.out (by kernel_rfl)) (fun _ _ _ h => h) (Or.inl ⟨by rfl,?_⟩) ?_ ?_;rotate_left
                     ·intro w';go_simp;with_reducible rfl
                     rotate_left
                     ·simp only [Act.put,List.setIfInBounds_toArray,List.set_cons_zero,List.set_cons_succ,i64_w,i32_w];rfl
                     refine pure_ (i := 4) (N := some 94) (v := ?_) (a' := ?_) #[true,true,true,true,true,false,false,false,false,false,false,false,false,false,false,false,false,false,false,false,false,false,false,false] rfl rfl (any_of HT_.out (by kernel_rfl)) (fun _ _ _ h => h) (Or.inl ⟨by rfl,?_⟩) ?_ ?_;rotate_left
                     ·intro w';go_simp;with_reducible rfl
                     rotate_left
                     ·simp only [Act.put,List.setIfInBounds_toArray,List.set_cons_zero,List.set_cons_succ,i64_w,i32_w];rfl
                     refine pure_ (i := 5) (N := some 95) (v := ?_) (a' := ?_) #[true,true,true,true,true,true,false,false,false,false,false,false,false,false,false,false,false,false,false,false,false,false,false,false] rfl rfl (any_of HT_.out (by kernel_rfl)) (fun _ _ _ h => h) (Or.inl ⟨by rfl,?_⟩) ?_ ?_;rotate_left
                     ·intro w';go_simp;with_reducible rfl
                     rotate_left
                     ·simp only [Act.put,List.setIfInBounds_toArray,List.set_cons_zero,List.set_cons_succ,i64_w,i32_w];rfl
                     refine pure_ (i := 6) (N := some 96) (v := ?_) (a' := ?_) #[true,true,true,true,true,true,true,false,false,false,false,false,false,false,false,false,false,false,false,false,false,false,false,false] rfl rfl (any_of HT_.out (by kernel_rfl)) (fun _ _ _ h => h) (Or.inl ⟨by rfl,?_⟩) ?_ ?_;rotate_left
                     ·intro w';go_simp;with_reducible rfl
                     rotate_left
                     ·simp only [Act.put,List.setIfInBounds_toArray,List.set_cons_zero,List.set_cons_succ,i64_w,i32_w];rfl
                     refine pure_ (i := 7) (N := some 97) (v := ?_) (a' := ?_) #[true,true,true,true,true,true,true,true,false,false,false,false,false,false,false,false,false,false,false,false,false,false,false,false] rfl rfl (any_of HT_.out (by kernel_rfl)) (fun _ _ _ h => h) (Or.inl ⟨by rfl,?_⟩) ?_ ?_;rotate_left
                     ·intro w';go_simp;with_reducible rfl
                     rotate_left
                     ·simp only [Act.put,List.setIfInBounds_toArray,List.set_cons_zero,List.set_cons_succ,i64_w,i32_w];rfl
                     refine pure_ (i := 9) (N := some 99) (v := ?_) (a' := ?_) #[true,true,true,true,true,true,true,true,false,true,false,false,false,false,false,false,false,false,false,false,false,false,false,false] rfl rfl (any_of HT_.out (by kernel_rfl)) (fun _ _ _ h => h) (Or.inl ⟨by rfl,?_⟩) ?_ ?_;rotate_left
                     ·intro w';go_simp;with_reducible rfl
                     rotate_left
                     ·simp only [Act.put,List.setIfInBounds_toArray,List.set_cons_zero,List.set_cons_succ,i64_w,i32_w];rfl
                     refine pure_ (i := 12) (N := some 102) (v := ?_) (a' := ?_) #[true,true,true,true,true,true,true,true,false,true,false,false,true,false,false,false,false,false,false,false,false,false,false,false] rfl rfl (any_of HT_.out (by kernel_rfl)) (fun _ _ _ h => h) (Or.inl ⟨by rfl,?_⟩) ?_ ?_;rotate_left
                     ·intro w';go_simp;with_reducible rfl
                     rotate_left
                     ·simp only [Act.put,List.setIfInBounds_toArray,List.set_cons_zero,List.set_cons_succ,i64_w,i32_w];rfl
                     refine pure_ (i := 13) (N := some 103) (v := ?_) (a' := ?_) #[true,true,true,true,true,true,true,true,false,true,false,false,true,true,false,false,false,false,false,false,false,false,false,false] rfl rfl (any_of HT_.out (by kernel_rfl)) (fun _ _ _ h => h) (Or.inl ⟨by rfl,?_⟩) ?_ ?_;rotate_left
                     ·intro w';go_simp;with_reducible rfl
                     rotate_left
                     ·simp only [Act.put,List.setIfInBounds_toArray,List.set_cons_zero,List.set_cons_succ,i64_w,i32_w];rfl
                     refine pure_ (i := 14) (N := some 104) (v := ?_) (a' := ?_) #[true,true,true,true,true,true,true,true,false,true,false,false,true,true,true,false,false,false,false,false,false,false,false,false] rfl rfl (any_of HT_.out (by kernel_rfl)) (fun _ _ _ h => h) (Or.inl ⟨by rfl,?_⟩) ?_ ?_;rotate_left
                     ·intro w';go_simp;with_reducible rfl
                     rotate_left
                     ·simp only [Act.put,List.setIfInBounds_toArray,List.set_cons_zero,List.set_cons_succ,i64_w,i32_w];rfl
                     refine pure_ (i := 15) (N := some 105) (v := ?_) (a' := ?_) #[true,true,true,true,true,true,true,true,false,true,false,false,true,true,true,true,false,false,false,false,false,false,false,false] rfl rfl (any_of HT_.out (by kernel_rfl)) (fun _ _ _ h => h) (Or.inl ⟨by rfl,?_⟩) ?_ ?_;rotate_left
                     ·intro w';go_simp;with_reducible rfl
                     rotate_left
                     ·simp only [Act.put,List.setIfInBounds_toArray,List.set_cons_zero,List.set_cons_succ,i64_w,i32_w];rfl
                     refine pure_ (i := 17) (N := some 107) (v := ?_) (a' := ?_) #[true,true,true,true,true,true,true,true,false,true,false,false,true,true,true,true,false,true,false,false,false,false,false,false] rfl rfl (any_of HT_.out (by kernel_rfl)) (fun _ _ _ h => h) (Or.inl ⟨by rfl,?_⟩) ?_ ?_;rotate_left
                     ·intro w';go_simp;with_reducible rfl
                     rotate_left
                     ·simp only [Act.put,List.setIfInBounds_toArray,List.set_cons_zero,List.set_cons_succ,i64_w,i32_w];rfl
                     refine take_ (i := 8) (N := some 98) (v := ?_) (a' := ?_) #[true,true,true,true,true,true,true,true,true,true,false,false,true,true,true,true,false,true,false,false,false,false,false,false] rfl rfl (take_ofW HT_.out HW_.out (by kernel_rfl)) (fun _ _ _ h => h) (Or.inl ⟨by rfl,?_⟩) hHeld ?_ ?_;rotate_left
                     ·rintro w' ⟨s0,s1,s2,s3⟩
                      go_simp;with_reducible rfl
                     rotate_left
                     ·simp only [Act.put,List.setIfInBounds_toArray,List.set_cons_zero,List.set_cons_succ,i64_w,i32_w];rfl
                     refine pure_ (i := 10) (N := some 100) (v := ?_) (a' := ?_) #[true,true,true,true,true,true,true,true,true,true,true,false,true,true,true,true,false,true,false,false,false,false,false,false] rfl rfl (any_of HT_.out (by kernel_rfl)) (fun _ _ _ h => h) (Or.inl ⟨by rfl,?_⟩) ?_ ?_;rotate_left
                     ·intro w';go_simp;with_reducible rfl
                     rotate_left
                     ·simp only [Act.put,List.setIfInBounds_toArray,List.set_cons_zero,List.set_cons_succ,i64_w,i32_w];rfl
                     refine take_ (i := 11) (N := some 101) (v := ?_) (a' := ?_) #[true,true,true,true,true,true,true,true,true,true,true,true,true,true,true,true,false,true,false,false,false,false,false,false] rfl rfl (take_ofW HT_.out HW_.out (by kernel_rfl)) (fun _ _ _ h => h) (Or.inl ⟨by rfl,?_⟩) hHeld ?_ ?_;rotate_left
                     ·rintro w' ⟨s0,s1,s2,s3⟩
                      go_simp;with_reducible rfl
                     rotate_left
                     ·simp only [Act.put,List.setIfInBounds_toArray,List.set_cons_zero,List.set_cons_succ,i64_w,i32_w];rfl
                     refine take_ (i := 16) (N := some 106) (v := ?_) (a' := ?_) #[true,true,true,true,true,true,true,true,true,true,true,true,true,true,true,true,true,true,false,false,false,false,false,false] rfl rfl (take_ofW HT_.out HW_.out (by kernel_rfl)) (fun _ _ _ h => h) (Or.inl ⟨by rfl,?_⟩) hHeld ?_ ?_;rotate_left
                     ·rintro w' ⟨s0,s1,s2,s3⟩
                      go_simp;with_reducible rfl
                     rotate_left
                     ·simp only [Act.put,List.setIfInBounds_toArray,List.set_cons_zero,List.set_cons_succ,i64_w,i32_w];rfl
                     refine pure_ (i := 18) (N := some 108) (v := ?_) (a' := ?_) #[true,true,true,true,true,true,true,true,true,true,true,true,true,true,true,true,true,true,true,false,false,false,false,false] rfl rfl (any_of HT_.out (by kernel_rfl)) (fun _ _ _ h => h) (Or.inl ⟨by rfl,?_⟩) ?_ ?_;rotate_left
                     ·intro w';go_simp;with_reducible rfl
                     rotate_left
                     ·simp only [Act.put,List.setIfInBounds_toArray,List.set_cons_zero,List.set_cons_succ,i64_w,i32_w];rfl
                     refine take_ (i := 19) (N := some 109) (v := ?_) (a' := ?_) #[true,true,true,true,true,true,true,true,true,true,true,true,true,true,true,true,true,true,true,true,false,false,false,false] rfl rfl (take_ofW HT_.out HW_.out (by kernel_rfl)) (fun _ _ _ h => h) (Or.inl ⟨by rfl,?_⟩) hHeld ?_ ?_;rotate_left
                     ·rintro w' ⟨s0,s1,s2,s3⟩
                      go_simp;with_reducible rfl
                     rotate_left
                     ·simp only [Act.put,List.setIfInBounds_toArray,List.set_cons_zero,List.set_cons_succ,i64_w,i32_w];rfl
                     refine pure_ (i := 20) (N := some 110) (v := ?_) (a' := ?_) #[true,true,true,true,true,true,true,true,true,true,true,true,true,true,true,true,true,true,true,true,true,false,false,false] rfl rfl (any_of HT_.out (by kernel_rfl)) (fun _ _ _ h => h) (Or.inl ⟨by rfl,?_⟩) ?_ ?_;rotate_left
                     ·intro w';go_simp;with_reducible rfl
                     rotate_left
                     ·simp only [Act.put,List.setIfInBounds_toArray,List.set_cons_zero,List.set_cons_succ,i64_w,i32_w];rfl
                     refine pure_ (i := 21) (N := some 111) (v := ?_) (a' := ?_) #[true,true,true,true,true,true,true,true,true,true,true,true,true,true,true,true,true,true,true,true,true,true,false,false] rfl rfl (any_of HT_.out (by kernel_rfl)) (fun _ _ _ h => h) (Or.inl ⟨by rfl,?_⟩) ?_ ?_;rotate_left
                     ·intro w';go_simp;with_reducible rfl
                     rotate_left
                     ·simp only [Act.put,List.setIfInBounds_toArray,List.set_cons_zero,List.set_cons_succ,i64_w,i32_w];rfl
                     refine pure_ (i := 22) (N := some 112) (v := ?_) (a' := ?_) #[true,true,true,true,true,true,true,true,true,true,true,true,true,true,true,true,true,true,true,true,true,true,true,false] rfl rfl (any_of HT_.out (by kernel_rfl)) (fun _ _ _ h => h) (Or.inl ⟨by rfl,?_⟩) ?_ ?_;rotate_left
                     ·intro w';go_simp;with_reducible rfl
                     rotate_left
                     ·simp only [Act.put,List.setIfInBounds_toArray,List.set_cons_zero,List.set_cons_succ,i64_w,i32_w];rfl
                     refine pure_ (i := 23) (N := some 89) (v := ?_) (a' := ?_) #[true,true,true,true,true,true,true,true,true,true,true,true,true,true,true,true,true,true,true,true,true,true,true,true] rfl rfl (any_of HT_.out (by kernel_rfl)) (fun _ _ _ h => h) (Or.inl ⟨by rfl,?_⟩) ?_ ?_;rotate_left
                     ·intro w';go_simp;with_reducible rfl
                     rotate_left
                     ·simp only [Act.put,List.setIfInBounds_toArray,List.set_cons_zero,List.set_cons_succ,i64_w,i32_w];rfl
                     refine done_ (done_of HT_.out (by kernel_rfl)) ?_
                     try go_wp2_with (first | ((with_reducible refine gate_builtin (b := .append) (xs := #[.tmp 113,.tmp 116]) rfl ?_);(try (refine gate_guard (by rfl) ?_;dsimp only));at_builtin;refine Kd.R_append k100 (w0 := w) w.heap.size rfl (.tmp 113) (.tmp 116) 52 100 (.agg #[(.int .i64 0),(.int .i64 0)]) 16 rfl Try.underlying52 info100 rfl (by decide) (by omega) u6 x6_1 (⟨x7_1,(-1)⟩ : S100) [.int .i64 x7_1,.int .i64 (-1)] (fun _ => True) (fun _ => False) rfl rfl ?aP (fun _ hk => hk.elim) ?aF ?aO ?aB ?aS ?aL ?_;(case aP => exact k100_mkM _ _ _ (⟨x7_1,(-1)⟩ : S100));(case aB => exact (by repeat (first | (with_reducible first | exact HB.out | apply below_alloc | apply pw_below_drewN | apply below_drew1) | exact HB.out)));(case aF => exact (fun _ _ => trivial));(case aO => exact (by (with_reducible repeat (first | apply Kd.R_alloc | apply Kd.R_drewN | apply Kd.R_drew));exact HO_6.out));(case aS => exact (below_size (by repeat (first | (with_reducible first | exact HB.out | apply below_alloc | apply pw_below_drewN | apply below_drew1) | exact HB.out))));(case aL => have := LMc48.out;omega);intro v123 w51 ho hb hg hat;rw [← Ny122.out] at ho;have n0_ := Aside0.mk (Kd.S_over' (by (with_reducible repeat (first | apply Kd.S_alloc | apply Kd.S_drewN | apply Kd.S_drew));exact HO_5.out) (Kd.R_typed (by (with_reducible repeat (first | apply Kd.R_alloc | apply Kd.R_drewN | apply Kd.R_drew));exact HO_6.out)) (by decide) hg);have n1_ := Aside0.mk (Kd.R_over' (by (with_reducible repeat (first | apply Kd.R_alloc | apply Kd.R_drewN | apply Kd.R_drew));exact HL118_0.out) (Kd.R_typed (by (with_reducible repeat (first | apply Kd.R_alloc | apply Kd.R_drewN | apply Kd.R_drew));exact HO_6.out)) (by decide) hg);have n2_ := Aside0.mk (Kd.R_over' (by (with_reducible repeat (first | apply Kd.R_alloc | apply Kd.R_drewN | apply Kd.R_drew));exact HL120_0.out) (Kd.R_typed (by (with_reducible repeat (first | apply Kd.R_alloc | apply Kd.R_drewN | apply Kd.R_drew));exact HO_6.out)) (by decide) hg);have n3_ := Aside0.mk (hb);have n4_ := Aside0.mk (ho);clear HO_5;clear HL118_0;clear HL120_0;clear HB;clear HO_6;have HO_5 := n0_;have HL118_0 := n1_;have HL120_0 := n2_;have HB := n3_;have HO124 := n4_;clear n0_ n1_ n2_ n3_ n4_;clear ho hb hg hat))
                     go_roundg kj11
                     case measure => have := HK1.out;have := HJ6.out;have := HJ9.out;have := HJ11.out;omega
                     case rel => exact ⟨(y122),(ji43),(x8_1),(by first | rfl | (simp only [IntKind.wrap_i64,wrap64];done) | (simp;done) | (simp only [← hji43] <;> (first | rfl | simp)) | (simp [*];done)),(by first | rfl | (simp only [IntKind.wrap_i64,wrap64];done) | (simp;done) | (simp [*];done)),H',⟨by have := HK1.out;have := HJ6.out;have := HJ9.out;have := HJ11.out;omega⟩,⟨by (with_reducible repeat (first | apply Kd.S_alloc | apply Kd.S_drewN | apply Kd.S_drew));exact HO_5.out⟩,⟨by (with_reducible repeat (first | apply Kd.R_alloc | apply Kd.R_drewN | apply Kd.R_drew));exact HO124.out⟩,⟨by repeat (first | (with_reducible first | exact HB.out | apply below_alloc | apply pw_below_drewN | apply below_drew1) | exact HB.out)⟩⟩
                    ·rw [if_neg c48] at H;exact absurd H (by simp)
                   ·rw [if_neg c47] at H;have c47b0 : ((rd (rd_L6 t101 x7_1) x8_1) == (wrap64 ((rd (rd_L6 t101 (ji43)) x8_1) + 1))) = false := beq_eq_false_iff_ne.mpr c47;have c47b1 : ((rd (rd_L6 t101 x7_1) x8_1) != (wrap64 ((rd (rd_L6 t101 (ji43)) x8_1) + 1))) = true := bne_iff_ne.mpr c47
                    by_cases c52 : x6_1.length < 8796093022208
                    ·rw [if_pos c52] at H;have LMc52 := Aside0.mk c52;clear c52;obtain ⟨y125,hy125⟩ : ∃ y_ : List (S100),y_ = (x6_1 ++ [(⟨(-1),x8_1⟩ : S100)]) := ⟨_,rfl⟩
                     replace H : (impl_story.l0 kj11 l0 l1 t101 y125 x7_1 (wrap64 (x8_1 + 1))) = some r := by first | (rw [hy125];with_reducible exact H) | (have H2_ := (Option.bind_some _ _).symm.trans H;rw [hy125];with_reducible exact H2_) | (have H2_ := (Option.bind_some _ _).symm.trans H;with_reducible exact H2_) | with_reducible exact H | (rw [hy125];exact H) | exact H
                     have Ny125 := Aside0.mk hy125;clear hy125;have H' := Aside0.mk H;clear H;(try go_wp2);have n0_ := Aside0.mk (Kd.S_drew HO_5.out);have n1_ := Aside0.mk (Kd.R_drew HO_6.out);have n2_ := Aside0.mk (below_drew1 HB.out);clear HO_5;clear HO_6;clear HB;have HO_5 := n0_;have HO_6 := n1_;have HB := n2_;clear n0_ n1_ n2_;obtain ⟨Ao54,co54,eo54⟩ := Kd.S_slice HO_5.out;(first | subst eo54 | (injection eo54 with f1_ f2_ f3_;have f4_ := f1_.symm;have f5_ := f3_.symm;clear f1_ f2_ f3_;subst f4_;subst f5_));have p118 : 0 ≤ (x7_1 : Int) := of_decide_eq_true (by first | (with_reducible assumption) | assumption);have q118 : x7_1 < (t101.length : Int) := of_decide_eq_true (by first | (with_reducible assumption) | assumption);obtain ⟨ad118,A118_0,c118_0,e118,hx118_0,hl118_0,hi118_0⟩ := at_L6 (Kd.S_reads' HO_5.out).2.2 x7_1 p118 q118;cases e118;obtain ⟨ce118,hce118,hMe118,hcc118⟩ := Kd.S_get HO_5.out [] x7_1 p118 (by first | exact q118 | exact of_decide_eq_true (by first | (with_reducible assumption) | assumption) | (have e_ := (Kd.S_reads' HO_5.out).1;omega));obtain ⟨ve118_0,rfl,ge118_0⟩ := hMe118;have hv118_0 := hcc118 0 _ rfl;rw [Nat.add_zero,show ((Kd.slice 2 (Kd.int .i64))).sz = 1 from rfl,Nat.mul_one] at hv118_0;replace hv118_0 := Option.some.inj (hv118_0.symm.trans hx118_0);rw [hv118_0] at ge118_0;have HL118_0 := Aside0.mk (show Kd.R (Kd.int .i64) 2 _ _ _ _ (rd_L6 t101 x7_1) from ge118_0);clear hv118_0 ge118_0;clear hcc118 hce118;have HR118_0 := Aside0.mk hi118_0;have HC118_0 := Aside0.mk hl118_0;clear hi118_0 hl118_0;replace p118 := eq_true p118;replace q118 := eq_true q118;have p119 : 0 ≤ (x8_1 : Int) := of_decide_eq_true (by first | (with_reducible assumption) | assumption);have q119 : x8_1 < ((rd_L6 t101 x7_1).length : Int) := of_decide_eq_true (by first | (with_reducible assumption) | assumption);obtain ⟨ad119,e119,hx119_0⟩ := Kd.at_int (by repeat (first | (with_reducible exact HR118_0.out) | (with_reducible refine Kd.C_alloc ?_ _) | (with_reducible refine Kd.C_drewN ?_ _) | (with_reducible refine Kd.C_drew ?_) | exact HR118_0.out)) x8_1 p119 q119;cases e119;replace p119 := eq_true p119;replace q119 := eq_true q119;have p120 : 0 ≤ ((ji43) : Int) := of_decide_eq_true (by first | (with_reducible assumption) | assumption);have q120 : (ji43) < (t101.length : Int) := of_decide_eq_true (by first | (with_reducible assumption) | assumption);obtain ⟨ad120,A120_0,c120_0,e120,hx120_0,hl120_0,hi120_0⟩ := at_L6 (Kd.S_reads' HO_5.out).2.2 (ji43) p120 q120;obtain rfl : ad118 = ad120 := (by injection e120);obtain ⟨ce120,hce120,hMe120,hcc120⟩ := Kd.S_get HO_5.out [] (ji43) p120 (by first | exact q120 | exact of_decide_eq_true (by first | (with_reducible assumption) | assumption) | (have e_ := (Kd.S_reads' HO_5.out).1;omega));obtain ⟨ve120_0,rfl,ge120_0⟩ := hMe120;have hv120_0 := hcc120 0 _ rfl;rw [Nat.add_zero,show ((Kd.slice 2 (Kd.int .i64))).sz = 1 from rfl,Nat.mul_one] at hv120_0;replace hv120_0 := Option.some.inj (hv120_0.symm.trans hx120_0);rw [hv120_0] at ge120_0;have HL120_0 := Aside0.mk (show Kd.R (Kd.int .i64) 2 _ _ _ _ (rd_L6 t101 (ji43)) from ge120_0);clear hv120_0 ge120_0;clear hcc120 hce120;have HR120_0 := Aside0.mk hi120_0;have HC120_0 := Aside0.mk hl120_0;clear hi120_0 hl120_0;replace p120 := eq_true p120;replace q120 := eq_true q120;have p121 : 0 ≤ (x8_1 : Int) := of_decide_eq_true (by first | (with_reducible assumption) | assumption);have q121 : x8_1 < ((rd_L6 t101 (ji43)).length : Int) := of_decide_eq_true (by first | (with_reducible assumption) | assumption);obtain ⟨ad121,e121,hx121_0⟩ := Kd.at_int (by repeat (first | (with_reducible exact HR120_0.out) | (with_reducible refine Kd.C_alloc ?_ _) | (with_reducible refine Kd.C_drewN ?_ _) | (with_reducible refine Kd.C_drew ?_) | exact HR120_0.out)) x8_1 p121 q121;cases e121;replace p121 := eq_true p121;replace q121 := eq_true q121;refine start_ (n := 24) (S := fun w' => w'.cell? (ad118.add (x7_1).toNat) = some (.slice (some ad119) (rd_L6 t101 x7_1).length c118_0) ∧ w'.cell? (ad119.add (x8_1).toNat) = some (.int .i64 (rd (rd_L6 t101 x7_1) x8_1)) ∧ w'.cell? (ad118.add ((ji43)).toNat) = some (.slice (some ad121) (rd_L6 t101 (ji43)).length c120_0) ∧ w'.cell? (ad121.add (x8_1).toNat) = some (.int .i64 (rd (rd_L6 t101 (ji43)) x8_1))) (ds := []) #[false,false,false,false,false,false,false,false,false,false,false,false,false,false,false,false,false,false,false,false,false,false,false,false] (by kernel_rfl) rfl rfl ⟨hx118_0,hx119_0,hx120_0,hx121_0⟩ (fun hHeld => ?_);refine with_tabW impl_story.tab12 impl_story.bits12 (fun HT_ HW_ => ?_);generalize wc.drew = w53 at HO_5 HO_6 HB HL118_0 HL120_0 HR118_0 HR120_0 hx118_0 hx119_0 hx120_0 hx121_0 hHeld ⊢;refine pure_ (i := 0) (N := some 90) (v := ?_) (a' := ?_) #[true,false,false,false,false,false,false,false,false,false,false,false,false,false,false,false,false,false,false,false,false,false,false,false] rfl rfl (any_of HT_.out (by kernel_rfl)) (fun _ _ _ h => h) (Or.inl ⟨by rfl,?_⟩) ?_ ?_;rotate_left
                     ·intro w';go_simp;with_reducible rfl
                     rotate_left
                     ·simp only [Act.put,List.setIfInBounds_toArray,List.set_cons_zero,List.set_cons_succ,i64_w,i32_w];rfl
                     refine pure_ (i := 1) (N := some 91) (v := ?_) (a' := ?_) #[true,true,false,false,false,false,false,false,false,false,false,false,false,false,false,false,false,false,false,false,false,false,false,false] rfl rfl (any_of HT_.out (by kernel_rfl)) (fun _ _ _ h => h) (Or.inl ⟨by rfl,?_⟩) ?_ ?_;rotate_left
                     ·intro w';go_simp;with_reducible rfl
                     rotate_left
                     ·simp only [Act.put,List.setIfInBounds_toArray,List.set_cons_zero,List.set_cons_succ,i64_w,i32_w];rfl
                     refine pure_ (i := 2) (N := some 92) (v := ?_) (a' := ?_) #[true,true,true,false,false,false,false,false,false,false,false,false,false,false,false,false,false,false,false,false,false,false,false,false] rfl rfl (any_of HT_.out (by kernel_rfl)) (fun _ _ _ h => h) (Or.inl ⟨by rfl,?_⟩) ?_ ?_;rotate_left
                     ·intro w';go_simp;with_reducible rfl
                     rotate_left
                     ·simp only [Act.put,List.setIfInBounds_toArray,List.set_cons_zero,List.set_cons_succ,i64_w,i32_w];rfl
                     refine pure_ (i := 3) (N := some 93) (v := ?_) (a' := ?_) #[true,true,true,true,false,false,false,false,false,false,false,false,false,false,false,false,false,false,false,false,false,false,false,false] rfl rfl (any_of HT_.out (by kernel_rfl)) (fun _ _ _ h => h) (Or.inl ⟨by rfl,?_⟩) ?_ ?_;rotate_left
                     ·intro w';go_simp;with_reducible rfl
                     rotate_left
                     ·simp only [Act.put,List.setIfInBounds_toArray,List.set_cons_zero,List.set_cons_succ,i64_w,i32_w];rfl
                     refine pure_ (i := 4) (N := some 94) (v := ?_) (a' := ?_) #[true,true,true,true,true,false,false,false,false,false,false,false,false,false,false,false,false,false,false,false,false,false,false,false] rfl rfl (any_of HT_.out (by kernel_rfl)) (fun _ _ _ h => h) (Or.inl ⟨by rfl,?_⟩) ?_ ?_;rotate_left
                     ·intro w';go_simp;with_reducible rfl
                     rotate_left
                     ·simp only [Act.put,List.setIfInBounds_toArray,List.set_cons_zero,List.set_cons_succ,i64_w,i32_w];rfl
                     refine pure_ (i := 5) (N := some 95) (v := ?_) (a' := ?_) #[true,true,true,true,true,true,false,false,false,false,false,false,false,false,false,false,false,false,false,false,false,false,false,false] rfl rfl (any_of HT_.out (by kernel_rfl)) (fun _ _ _ h => h) (Or.inl ⟨by rfl,?_⟩) ?_ ?_;rotate_left
                     ·intro w';go_simp;with_reducible rfl
                     rotate_left
                     ·simp only [Act.put,List.setIfInBounds_toArray,List.set_cons_zero,List.set_cons_succ,i64_w,i32_w];rfl
                     refine pure_ (i := 6) (N := some 96) (v := ?_) (a' := ?_) #[true,true,true,true,true,true,true,false,false,false,false,false,false,false,false,false,false,false,false,false,false,false,false,false] rfl rfl (any_of HT_.out (by kernel_rfl)) (fun _ _ _ h => h) (Or.inl ⟨by rfl,?_⟩) ?_ ?_;rotate_left
                     ·intro w';go_simp;with_reducible rfl
                     rotate_left
                     ·simp only [Act.put,List.setIfInBounds_toArray,List.set_cons_zero,List.set_cons_succ,i64_w,i32_w];rfl
                     refine pure_ (i := 7) (N := some 97) (v := ?_) (a' := ?_) #[true,true,true,true,true,true,true,true,false,false,false,false,false,false,false,false,false,false,false,false,false,false,false,false] rfl rfl (any_of HT_.out (by kernel_rfl)) (fun _ _ _ h => h) (Or.inl ⟨by rfl,?_⟩) ?_ ?_;rotate_left
                     ·intro w';go_simp;with_reducible rfl
                     rotate_left
                     ·simp only [Act.put,List.setIfInBounds_toArray,List.set_cons_zero,List.set_cons_succ,i64_w,i32_w];rfl
                     refine pure_ (i := 9) (N := some 99) (v := ?_) (a' := ?_) #[true,true,true,true,true,true,true,true,false,true,false,false,false,false,false,false,false,false,false,false,false,false,false,false] rfl rfl (any_of HT_.out (by kernel_rfl)) (fun _ _ _ h => h) (Or.inl ⟨by rfl,?_⟩) ?_ ?_;rotate_left
                     ·intro w';go_simp;with_reducible rfl
                     rotate_left
                     ·simp only [Act.put,List.setIfInBounds_toArray,List.set_cons_zero,List.set_cons_succ,i64_w,i32_w];rfl
                     refine pure_ (i := 12) (N := some 102) (v := ?_) (a' := ?_) #[true,true,true,true,true,true,true,true,false,true,false,false,true,false,false,false,false,false,false,false,false,false,false,false] rfl rfl (any_of HT_.out (by kernel_rfl)) (fun _ _ _ h => h) (Or.inl ⟨by rfl,?_⟩) ?_ ?_;rotate_left
                     ·intro w';go_simp;with_reducible rfl
                     rotate_left
                     ·simp only [Act.put,List.setIfInBounds_toArray,List.set_cons_zero,List.set_cons_succ,i64_w,i32_w];rfl
                     refine pure_ (i := 13) (N := some 103) (v := ?_) (a' := ?_) #[true,true,true,true,true,true,true,true,false,true,false,false,true,true,false,false,false,false,false,false,false,false,false,false] rfl rfl (any_of HT_.out (by kernel_rfl)) (fun _ _ _ h => h) (Or.inl ⟨by rfl,?_⟩) ?_ ?_;rotate_left
                     ·intro w';go_simp;with_reducible rfl
                     rotate_left
                     ·simp only [Act.put,List.setIfInBounds_toArray,List.set_cons_zero,List.set_cons_succ,i64_w,i32_w];rfl
                     refine pure_ (i := 14) (N := some 104) (v := ?_) (a' := ?_) #[true,true,true,true,true,true,true,true,false,true,false,false,true,true,true,false,false,false,false,false,false,false,false,false] rfl rfl (any_of HT_.out (by kernel_rfl)) (fun _ _ _ h => h) (Or.inl ⟨by rfl,?_⟩) ?_ ?_;rotate_left
                     ·intro w';go_simp;with_reducible rfl
                     rotate_left
                     ·simp only [Act.put,List.setIfInBounds_toArray,List.set_cons_zero,List.set_cons_succ,i64_w,i32_w];rfl
                     refine pure_ (i := 15) (N := some 105) (v := ?_) (a' := ?_) #[true,true,true,true,true,true,true,true,false,true,false,false,true,true,true,true,false,false,false,false,false,false,false,false] rfl rfl (any_of HT_.out (by kernel_rfl)) (fun _ _ _ h => h) (Or.inl ⟨by rfl,?_⟩) ?_ ?_;rotate_left
                     ·intro w';go_simp;with_reducible rfl
                     rotate_left
                     ·simp only [Act.put,List.setIfInBounds_toArray,List.set_cons_zero,List.set_cons_succ,i64_w,i32_w];rfl
                     refine pure_ (i := 17) (N := some 107) (v := ?_) (a' := ?_) #[true,true,true,true,true,true,true,true,false,true,false,false,true,true,true,true,false,true,false,false,false,false,false,false] rfl rfl (any_of HT_.out (by kernel_rfl)) (fun _ _ _ h => h) (Or.inl ⟨by rfl,?_⟩) ?_ ?_;rotate_left
                     ·intro w';go_simp;with_reducible rfl
                     rotate_left
                     ·simp only [Act.put,List.setIfInBounds_toArray,List.set_cons_zero,List.set_cons_succ,i64_w,i32_w];rfl
                     refine take_ (i := 8) (N := some 98) (v := ?_) (a' := ?_) #[true,true,true,true,true,true,true,true,true,true,false,false,true,true,true,true,false,true,false,false,false,false,false,false] rfl rfl (take_ofW HT_.out HW_.out (by kernel_rfl)) (fun _ _ _ h => h) (Or.inl ⟨by rfl,?_⟩) hHeld ?_ ?_;rotate_left
                     ·rintro w' ⟨s0,s1,s2,s3⟩
                      go_simp;with_reducible rfl
                     rotate_left
                     ·simp only [Act.put,List.setIfInBounds_toArray,List.set_cons_zero,List.set_cons_succ,i64_w,i32_w];rfl
                     refine pure_ (i := 10) (N := some 100) (v := ?_) (a' := ?_) #[true,true,true,true,true,true,true,true,true,true,true,false,true,true,true,true,false,true,false,false,false,false,false,false] rfl rfl (any_of HT_.out (by kernel_rfl)) (fun _ _ _ h => h) (Or.inl ⟨by rfl,?_⟩) ?_ ?_;rotate_left
                     ·intro w';go_simp;with_reducible rfl
                     rotate_left
                     ·simp only [Act.put,List.setIfInBounds_toArray,List.set_cons_zero,List.set_cons_succ,i64_w,i32_w];rfl
                     refine take_ (i := 11) (N := some 101) (v := ?_) (a' := ?_) #[true,true,true,true,true,true,true,true,true,true,true,true,true,true,true,true,false,true,false,false,false,false,false,false] rfl rfl (take_ofW HT_.out HW_.out (by kernel_rfl)) (fun _ _ _ h => h) (Or.inl ⟨by rfl,?_⟩) hHeld ?_ ?_;rotate_left
                     ·rintro w' ⟨s0,s1,s2,s3⟩
                      go_simp;with_reducible rfl
                     rotate_left
                     ·simp only [Act.put,List.setIfInBounds_toArray,List.set_cons_zero,List.set_cons_succ,i64_w,i32_w];rfl
                     refine take_ (i := 16) (N := some 106) (v := ?_) (a' := ?_) #[true,true,true,true,true,true,true,true,true,true,true,true,true,true,true,true,true,true,false,false,false,false,false,false] rfl rfl (take_ofW HT_.out HW_.out (by kernel_rfl)) (fun _ _ _ h => h) (Or.inl ⟨by rfl,?_⟩) hHeld ?_ ?_;rotate_left
                     ·rintro w' ⟨s0,s1,s2,s3⟩
                      go_simp;with_reducible rfl
                     rotate_left
                     ·simp only [Act.put,List.setIfInBounds_toArray,List.set_cons_zero,List.set_cons_succ,i64_w,i32_w];rfl
                     refine pure_ (i := 18) (N := some 108) (v := ?_) (a' := ?_) #[true,true,true,true,true,true,true,true,true,true,true,true,true,true,true,true,true,true,true,false,false,false,false,false] rfl rfl (any_of HT_.out (by kernel_rfl)) (fun _ _ _ h => h) (Or.inl ⟨by rfl,?_⟩) ?_ ?_;rotate_left
                     ·intro w';go_simp;with_reducible rfl
                     rotate_left
                     ·simp only [Act.put,List.setIfInBounds_toArray,List.set_cons_zero,List.set_cons_succ,i64_w,i32_w];rfl
                     refine take_ (i := 19) (N := some 109) (v := ?_) (a' := ?_) #[true,true,true,true,true,true,true,true,true,true,true,true,true,true,true,true,true,true,true,true,false,false,false,false] rfl rfl (take_ofW HT_.out HW_.out (by kernel_rfl)) (fun _ _ _ h => h) (Or.inl ⟨by rfl,?_⟩) hHeld ?_ ?_;rotate_left
                     ·rintro w' ⟨s0,s1,s2,s3⟩
                      go_simp;with_reducible rfl
                     rotate_left
                     ·simp only [Act.put,List.setIfInBounds_toArray,List.set_cons_zero,List.set_cons_succ,i64_w,i32_w];rfl
                     refine pure_ (i := 20) (N := some 110) (v := ?_) (a' := ?_) #[true,true,true,true,true,true,true,true,true,true,true,true,true,true,true,true,true,true,true,true,true,false,false,false] rfl rfl (any_of HT_.out (by kernel_rfl)) (fun _ _ _ h => h) (Or.inl ⟨by rfl,?_⟩) ?_ ?_;rotate_left
                     ·intro w';go_simp;with_reducible rfl
                     rotate_left
                     ·simp only [Act.put,List.setIfInBounds_toArray,List.set_cons_zero,List.set_cons_succ,i64_w,i32_w];rfl
                     refine pure_ (i := 21) (N := some 111) (v := ?_) (a' := ?_) #[true,true,true,true,true,true,true,true,true,true,true,true,true,true,true,true,true,true,true,true,true,true,false,false] rfl rfl (any_of HT_.out (by kernel_rfl)) (fun _ _ _ h => h) (Or.inl ⟨by rfl,?_⟩) ?_ ?_;rotate_left
                     ·intro w';go_simp;with_reducible rfl
                     rotate_left
                     ·simp only [Act.put,List.setIfInBounds_toArray,List.set_cons_zero,List.set_cons_succ,i64_w,i32_w];rfl
                     refine pure_ (i := 22) (N := some 112) (v := ?_) (a' := ?_) #[true,true,true,true,true,true,true,true,true,true,true,true,true,true,true,true,true,true,true,true,true,true,true,false] rfl rfl (any_of HT_.out (by kernel_rfl)) (fun _ _ _ h => h) (Or.inl ⟨by rfl,?_⟩) ?_ ?_;rotate_left
                     ·intro w';go_simp;with_reducible rfl
                     rotate_left
                     ·simp only [Act.put,List.setIfInBounds_toArray,List.set_cons_zero,List.set_cons_succ,i64_w,i32_w];rfl
                     refine pure_ (i := 23) (N := some 89) (v := ?_) (a' := ?_) #[true,true,true,true,true,true,true,true,true,true,true,true,true,true,true,true,true,true,true,true,true,true,true,true] rfl rfl (any_of HT_.out (by kernel_rfl)) (fun _ _ _ h => h) (Or.inl ⟨by rfl,?_⟩) ?_ ?_;rotate_left
                     ·intro w';go_simp;with_reducible rfl
                     rotate_left
                     ·simp only [Act.put,List.setIfInBounds_toArray,List.set_cons_zero,List.set_cons_succ,i64_w,i32_w];rfl
                     refine done_ (done_of HT_.out (by kernel_rfl)) ?_
                     try go_wp2_with (first | ((with_reducible refine gate_builtin (b := .append) (xs := #[.tmp 70,.tmp 73]) rfl ?_);(try (refine gate_guard (by rfl) ?_;dsimp only));at_builtin;refine Kd.R_append k100 (w0 := w) w.heap.size rfl (.tmp 70) (.tmp 73) 52 100 (.agg #[(.int .i64 0),(.int .i64 0)]) 16 rfl Try.underlying52 info100 rfl (by decide) (by omega) u6 x6_1 (⟨(-1),x8_1⟩ : S100) [.int .i64 (-1),.int .i64 x8_1] (fun _ => True) (fun _ => False) rfl rfl ?aP (fun _ hk => hk.elim) ?aF ?aO ?aB ?aS ?aL ?_;(case aP => exact k100_mkM _ _ _ (⟨(-1),x8_1⟩ : S100));(case aB => exact (by repeat (first | (with_reducible first | exact HB.out | apply below_alloc | apply pw_below_drewN | apply below_drew1) | exact HB.out)));(case aF => exact (fun _ _ => trivial));(case aO => exact (by (with_reducible repeat (first | apply Kd.R_alloc | apply Kd.R_drewN | apply Kd.R_drew));exact HO_6.out));(case aS => exact (below_size (by repeat (first | (with_reducible first | exact HB.out | apply below_alloc | apply pw_below_drewN | apply below_drew1) | exact HB.out))));(case aL => have := LMc52.out;omega);intro v126 w55 ho hb hg hat;rw [← Ny125.out] at ho;have n0_ := Aside0.mk (Kd.S_over' (by (with_reducible repeat (first | apply Kd.S_alloc | apply Kd.S_drewN | apply Kd.S_drew));exact HO_5.out) (Kd.R_typed (by (with_reducible repeat (first | apply Kd.R_alloc | apply Kd.R_drewN | apply Kd.R_drew));exact HO_6.out)) (by decide) hg);have n1_ := Aside0.mk (Kd.R_over' (by (with_reducible repeat (first | apply Kd.R_alloc | apply Kd.R_drewN | apply Kd.R_drew));exact HL118_0.out) (Kd.R_typed (by (with_reducible repeat (first | apply Kd.R_alloc | apply Kd.R_drewN | apply Kd.R_drew));exact HO_6.out)) (by decide) hg);have n2_ := Aside0.mk (Kd.R_over' (by (with_reducible repeat (first | apply Kd.R_alloc | apply Kd.R_drewN | apply Kd.R_drew));exact HL120_0.out) (Kd.R_typed (by (with_reducible repeat (first | apply Kd.R_alloc | apply Kd.R_drewN | apply Kd.R_drew));exact HO_6.out)) (by decide) hg);have n3_ := Aside0.mk (hb);have n4_ := Aside0.mk (ho);clear HO_5;clear HL118_0;clear HL120_0;clear HB;clear HO_6;have HO_5 := n0_;have HL118_0 := n1_;have HL120_0 := n2_;have HB := n3_;have HO127 := n4_;clear n0_ n1_ n2_ n3_ n4_;clear ho hb hg hat))
                     go_roundg kj11
                     case measure => have := HK1.out;have := HJ6.out;have := HJ9.out;have := HJ11.out;omega
                     case rel => exact ⟨(y125),(x7_1),(wrap64 (x8_1 + 1)),(by first | rfl | (simp only [IntKind.wrap_i64,wrap64];done) | (simp;done) | (simp [*];done)),(by first | rfl | (simp only [IntKind.wrap_i64,wrap64];done) | (simp;done) | (simp [*];done)),H',⟨by have := HK1.out;have := HJ6.out;have := HJ9.out;have := HJ11.out;omega⟩,⟨by (with_reducible repeat (first | apply Kd.S_alloc | apply Kd.S_drewN | apply Kd.S_drew));exact HO_5.out⟩,⟨by (with_reducible repeat (first | apply Kd.R_alloc | apply Kd.R_drewN | apply Kd.R_drew));exact HO127.out⟩,⟨by repeat (first | (with_reducible first | exact HB.out | apply below_alloc | apply pw_below_drewN | apply below_drew1) | exact HB.out)⟩⟩
                    ·rw [if_neg c52] at H;exact absurd H (by simp)
                  ·rw [if_neg c46] at H;exact absurd H (by simp)
                 ·rw [if_neg c45] at H;exact absurd H (by simp)
                ·rw [if_neg c44] at H;exact absurd H (by simp)
               ·rw [if_neg c42] at H;exact absurd H (by simp)
              ·rw [if_neg c41] at H;exact absurd H (by simp)
             ·rw [if_neg c40] at H;exact absurd H (by simp)
            ·rw [if_neg c39] at H;exact absurd H (by simp)
           ·rw [if_neg c38] at H;have c38b0 : decide (x7_1 < (l0.length : Int)) = false := decide_eq_false c38;clear c38
            by_cases c56 : x6_1.length < 8796093022208
            ·rw [if_pos c56] at H;have LMc56 := Aside0.mk c56;clear c56;obtain ⟨y128,hy128⟩ : ∃ y_ : List (S100),y_ = (x6_1 ++ [(⟨(-1),x8_1⟩ : S100)]) := ⟨_,rfl⟩
             replace H : (impl_story.l0 kj11 l0 l1 t101 y128 x7_1 (wrap64 (x8_1 + 1))) = some r := by first | (rw [hy128];with_reducible exact H) | (have H2_ := (Option.bind_some _ _).symm.trans H;rw [hy128];with_reducible exact H2_) | (have H2_ := (Option.bind_some _ _).symm.trans H;with_reducible exact H2_) | with_reducible exact H | (rw [hy128];exact H) | exact H
             have Ny128 := Aside0.mk hy128;clear hy128;have H' := Aside0.mk H;clear H;(try go_wp2);have n0_ := Aside0.mk (Kd.S_drew HO_5.out);have n1_ := Aside0.mk (Kd.R_drew HO_6.out);have n2_ := Aside0.mk (below_drew1 HB.out);clear HO_5;clear HO_6;clear HB;have HO_5 := n0_;have HO_6 := n1_;have HB := n2_;clear n0_ n1_ n2_;refine start_ (n := 24) (S := fun w' => True) (ds := []) #[false,false,false,false,false,false,false,false,false,false,false,false,false,false,false,false,false,false,false,false,false,false,false,false] (by kernel_rfl) rfl rfl trivial (fun hHeld => ?_);refine with_tabW impl_story.tab12 impl_story.bits12 (fun HT_ HW_ => ?_);generalize wc.drew = w57 at HO_5 HO_6 HB hHeld ⊢;refine pure_ (i := 0) (N := some 90) (v := ?_) (a' := ?_) #[true,false,false,false,false,false,false,false,false,false,false,false,false,false,false,false,false,false,false,false,false,false,false,false] rfl rfl (any_of HT_.out (by kernel_rfl)) (fun _ _ _ h => h) (Or.inl ⟨by rfl,?_⟩) ?_ ?_;rotate_left
             ·intro w';go_simp;with_reducible rfl
             rotate_left
             ·simp only [Act.put,List.setIfInBounds_toArray,List.set_cons_zero,List.set_cons_succ,i64_w,i32_w];rfl
             refine pure_ (i := 1) (N := some 91) (v := ?_) (a' := ?_) #[true,true,false,false,false,false,false,false,false,false,false,false,false,false,false,false,false,false,false,false,false,false,false,false] rfl rfl (any_of HT_.out (by kernel_rfl)) (fun _ _ _ h => h) (Or.inl ⟨by rfl,?_⟩) ?_ ?_;rotate_left
             ·intro w';go_simp;with_reducible rfl
             rotate_left
             ·simp only [Act.put,List.setIfInBounds_toArray,List.set_cons_zero,List.set_cons_succ,i64_w,i32_w];rfl
             refine pure_ (i := 2) (N := some 92) (v := ?_) (a' := ?_) #[true,true,true,false,false,false,false,false,false,false,false,false,false,false,false,false,false,false,false,false,false,false,false,false] rfl rfl (any_of HT_.out (by kernel_rfl)) (fun _ _ _ h => h) (Or.inl ⟨by rfl,?_⟩) ?_ ?_;rotate_left
             ·intro w';go_simp;with_reducible rfl
             rotate_left
             ·simp only [Act.put,List.setIfInBounds_toArray,List.set_cons_zero,List.set_cons_succ,i64_w,i32_w];rfl
             refine pure_ (i := 3) (N := some 93) (v := ?_) (a' := ?_) #[true,true,true,true,false,false,false,false,false,false,false,false,false,false,false,false,false,false,false,false,false,false,false,false] rfl rfl (any_of HT_.out (by kernel_rfl)) (fun _ _ _ h => h) (Or.inl ⟨by rfl,?_⟩) ?_ ?_;rotate_left
             ·intro w';go_simp;with_reducible rfl
             rotate_left
             ·simp only [Act.put,List.setIfInBounds_toArray,List.set_cons_zero,List.set_cons_succ,i64_w,i32_w];rfl
             refine pure_ (i := 4) (N := some 94) (v := ?_) (a' := ?_) #[true,true,true,true,true,false,false,false,false,false,false,false,false,false,false,false,false,false,false,false,false,false,false,false] rfl rfl (any_of HT_.out (by kernel_rfl)) (fun _ _ _ h => h) (Or.inl ⟨by rfl,?_⟩) ?_ ?_;rotate_left
             ·intro w';go_simp;with_reducible rfl
             rotate_left
             ·simp only [Act.put,List.setIfInBounds_toArray,List.set_cons_zero,List.set_cons_succ,i64_w,i32_w];rfl
             refine pure_ (i := 5) (N := some 95) (v := undef) (a' := ?_) #[true,true,true,true,true,true,false,false,false,false,false,false,false,false,false,false,false,false,false,false,false,false,false,false] rfl rfl (any_of HT_.out (by kernel_rfl)) (fun _ _ _ h => h) (Or.inr ⟨by rfl,rfl⟩) ?_ ?_;rotate_left
             ·simp only [Act.put,List.setIfInBounds_toArray,List.set_cons_zero,List.set_cons_succ,i64_w,i32_w];rfl
             refine pure_ (i := 6) (N := some 96) (v := undef) (a' := ?_) #[true,true,true,true,true,true,true,false,false,false,false,false,false,false,false,false,false,false,false,false,false,false,false,false] rfl rfl (any_of HT_.out (by kernel_rfl)) (fun _ _ _ h => h) (Or.inr ⟨by rfl,rfl⟩) ?_ ?_;rotate_left
             ·simp only [Act.put,List.setIfInBounds_toArray,List.set_cons_zero,List.set_cons_succ,i64_w,i32_w];rfl
             refine pure_ (i := 7) (N := some 97) (v := undef) (a' := ?_) #[true,true,true,true,true,true,true,true,false,false,false,false,false,false,false,false,false,false,false,false,false,false,false,false] rfl rfl (any_of HT_.out (by kernel_rfl)) (fun _ _ _ h => h) (Or.inr ⟨by rfl,rfl⟩) ?_ ?_;rotate_left
             ·simp only [Act.put,List.setIfInBounds_toArray,List.set_cons_zero,List.set_cons_succ,i64_w,i32_w];rfl
             refine pure_ (i := 8) (N := some 98) (v := undef) (a' := ?_) #[true,true,true,true,true,true,true,true,true,false,false,false,false,false,false,false,false,false,false,false,false,false,false,false] rfl rfl (any_of HT_.out (by kernel_rfl)) (fun _ _ _ h => h) (Or.inr ⟨by rfl,rfl⟩) ?_ ?_;rotate_left
             ·simp only [Act.put,List.setIfInBounds_toArray,List.set_cons_zero,List.set_cons_succ,i64_w,i32_w];rfl
             refine pure_ (i := 9) (N := some 99) (v := undef) (a' := ?_) #[true,true,true,true,true,true,true,true,true,true,false,false,false,false,false,false,false,false,false,false,false,false,false,false] rfl rfl (any_of HT_.out (by kernel_rfl)) (fun _ _ _ h => h) (Or.inr ⟨by rfl,rfl⟩) ?_ ?_;rotate_left
             ·simp only [Act.put,List.setIfInBounds_toArray,List.set_cons_zero,List.set_cons_succ,i64_w,i32_w];rfl
             refine pure_ (i := 10) (N := some 100) (v := undef) (a' := ?_) #[true,true,true,true,true,true,true,true,true,true,true,false,false,false,false,false,false,false,false,false,false,false,false,false] rfl rfl (any_of HT_.out (by kernel_rfl)) (fun _ _ _ h => h) (Or.inr ⟨by rfl,rfl⟩) ?_ ?_;rotate_left
             ·simp only [Act.put,List.setIfInBounds_toArray,List.set_cons_zero,List.set_cons_succ,i64_w,i32_w];rfl
             refine pure_ (i := 11) (N := some 101) (v := undef) (a' := ?_) #[true,true,true,true,true,true,true,true,true,true,true,true,false,false,false,false,false,false,false,false,false,false,false,false] rfl rfl (any_of HT_.out (by kernel_rfl)) (fun _ _ _ h => h) (Or.inr ⟨by rfl,rfl⟩) ?_ ?_;rotate_left
             ·simp only [Act.put,List.setIfInBounds_toArray,List.set_cons_zero,List.set_cons_succ,i64_w,i32_w];rfl
             refine pure_ (i := 12) (N := some 102) (v := undef) (a' := ?_) #[true,true,true,true,true,true,true,true,true,true,true,true,true,false,false,false,false,false,false,false,false,false,false,false] rfl rfl (any_of HT_.out (by kernel_rfl)) (fun _ _ _ h => h) (Or.inr ⟨by rfl,rfl⟩) ?_ ?_;rotate_left
             ·simp only [Act.put,List.setIfInBounds_toArray,List.set_cons_zero,List.set_cons_succ,i64_w,i32_w];rfl
             refine pure_ (i := 13) (N := some 103) (v := undef) (a' := ?_) #[true,true,true,true,true,true,true,true,true,true,true,true,true,true,false,false,false,false,false,false,false,false,false,false] rfl rfl (any_of HT_.out (by kernel_rfl)) (fun _ _ _ h => h) (Or.inr ⟨by rfl,rfl⟩) ?_ ?_;rotate_left
             ·simp only [Act.put,List.setIfInBounds_toArray,List.set_cons_zero,List.set_cons_succ,i64_w,i32_w];rfl
             refine pure_ (i := 14) (N := some 104) (v := undef) (a' := ?_) #[true,true,true,true,true,true,true,true,true,true,true,true,true,true,true,false,false,false,false,false,false,false,false,false] rfl rfl (any_of HT_.out (by kernel_rfl)) (fun _ _ _ h => h) (Or.inr ⟨by rfl,rfl⟩) ?_ ?_;rotate_left
             ·simp only [Act.put,List.setIfInBounds_toArray,List.set_cons_zero,List.set_cons_succ,i64_w,i32_w];rfl
             refine pure_ (i := 15) (N := some 105) (v := undef) (a' := ?_) #[true,true,true,true,true,true,true,true,true,true,true,true,true,true,true,true,false,false,false,false,false,false,false,false] rfl rfl (any_of HT_.out (by kernel_rfl)) (fun _ _ _ h => h) (Or.inr ⟨by rfl,rfl⟩) ?_ ?_;rotate_left
             ·simp only [Act.put,List.setIfInBounds_toArray,List.set_cons_zero,List.set_cons_succ,i64_w,i32_w];rfl
             refine pure_ (i := 16) (N := some 106) (v := undef) (a' := ?_) #[true,true,true,true,true,true,true,true,true,true,true,true,true,true,true,true,true,false,false,false,false,false,false,false] rfl rfl (any_of HT_.out (by kernel_rfl)) (fun _ _ _ h => h) (Or.inr ⟨by rfl,rfl⟩) ?_ ?_;rotate_left
             ·simp only [Act.put,List.setIfInBounds_toArray,List.set_cons_zero,List.set_cons_succ,i64_w,i32_w];rfl
             refine pure_ (i := 17) (N := some 107) (v := undef) (a' := ?_) #[true,true,true,true,true,true,true,true,true,true,true,true,true,true,true,true,true,true,false,false,false,false,false,false] rfl rfl (any_of HT_.out (by kernel_rfl)) (fun _ _ _ h => h) (Or.inr ⟨by rfl,rfl⟩) ?_ ?_;rotate_left
             ·simp only [Act.put,List.setIfInBounds_toArray,List.set_cons_zero,List.set_cons_succ,i64_w,i32_w];rfl
             refine pure_ (i := 18) (N := some 108) (v := undef) (a' := ?_) #[true,true,true,true,true,true,true,true,true,true,true,true,true,true,true,true,true,true,true,false,false,false,false,false] rfl rfl (any_of HT_.out (by kernel_rfl)) (fun _ _ _ h => h) (Or.inr ⟨by rfl,rfl⟩) ?_ ?_;rotate_left
             ·simp only [Act.put,List.setIfInBounds_toArray,List.set_cons_zero,List.set_cons_succ,i64_w,i32_w];rfl
             refine pure_ (i := 19) (N := some 109) (v := undef) (a' := ?_) #[true,true,true,true,true,true,true,true,true,true,true,true,true,true,true,true,true,true,true,true,false,false,false,false] rfl rfl (any_of HT_.out (by kernel_rfl)) (fun _ _ _ h => h) (Or.inr ⟨by rfl,rfl⟩) ?_ ?_;rotate_left
             ·simp only [Act.put,List.setIfInBounds_toArray,List.set_cons_zero,List.set_cons_succ,i64_w,i32_w];rfl
             refine pure_ (i := 20) (N := some 110) (v := undef) (a' := ?_) #[true,true,true,true,true,true,true,true,true,true,true,true,true,true,true,true,true,true,true,true,true,false,false,false] rfl rfl (any_of HT_.out (by kernel_rfl)) (fun _ _ _ h => h) (Or.inr ⟨by rfl,rfl⟩) ?_ ?_;rotate_left
             ·simp only [Act.put,List.setIfInBounds_toArray,List.set_cons_zero,List.set_cons_succ,i64_w,i32_w];rfl
             refine pure_ (i := 21) (N := some 111) (v := undef) (a' := ?_) #[true,true,true,true,true,true,true,true,true,true,true,true,true,true,true,true,true,true,true,true,true,true,false,false] rfl rfl (any_of HT_.out (by kernel_rfl)) (fun _ _ _ h => h) (Or.inr ⟨by rfl,rfl⟩) ?_ ?_;rotate_left
             ·simp only [Act.put,List.setIfInBounds_toArray,List.set_cons_zero,List.set_cons_succ,i64_w,i32_w];rfl
             refine pure_ (i := 22) (N := some 112) (v := ?_) (a' := ?_) #[true,true,true,true,true,true,true,true,true,true,true,true,true,true,true,true,true,true,true,true,true,true,true,false] rfl rfl (any_of HT_.out (by kernel_rfl)) (fun _ _ _ h => h) (Or.inl ⟨by rfl,?_⟩) ?_ ?_;rotate_left
             ·intro w';go_simp;with_reducible rfl
             rotate_left
             ·simp only [Act.put,List.setIfInBounds_toArray,List.set_cons_zero,List.set_cons_succ,i64_w,i32_w];rfl
             refine pure_ (i := 23) (N := some 89) (v := ?_) (a' := ?_) #[true,true,true,true,true,true,true,true,true,true,true,true,true,true,true,true,true,true,true,true,true,true,true,true] rfl rfl (any_of HT_.out (by kernel_rfl)) (fun _ _ _ h => h) (Or.inl ⟨by rfl,?_⟩) ?_ ?_;rotate_left
             ·intro w';go_simp;with_reducible rfl
             rotate_left
             ·simp only [Act.put,List.setIfInBounds_toArray,List.set_cons_zero,List.set_cons_succ,i64_w,i32_w];rfl
             refine done_ (done_of HT_.out (by kernel_rfl)) ?_
             try go_wp2_with (first | ((with_reducible refine gate_builtin (b := .append) (xs := #[.tmp 70,.tmp 73]) rfl ?_);(try (refine gate_guard (by rfl) ?_;dsimp only));at_builtin;refine Kd.R_append k100 (w0 := w) w.heap.size rfl (.tmp 70) (.tmp 73) 52 100 (.agg #[(.int .i64 0),(.int .i64 0)]) 16 rfl Try.underlying52 info100 rfl (by decide) (by omega) u6 x6_1 (⟨(-1),x8_1⟩ : S100) [.int .i64 (-1),.int .i64 x8_1] (fun _ => True) (fun _ => False) rfl rfl ?aP (fun _ hk => hk.elim) ?aF ?aO ?aB ?aS ?aL ?_;(case aP => exact k100_mkM _ _ _ (⟨(-1),x8_1⟩ : S100));(case aB => exact (by repeat (first | (with_reducible first | exact HB.out | apply below_alloc | apply pw_below_drewN | apply below_drew1) | exact HB.out)));(case aF => exact (fun _ _ => trivial));(case aO => exact (by (with_reducible repeat (first | apply Kd.R_alloc | apply Kd.R_drewN | apply Kd.R_drew));exact HO_6.out));(case aS => exact (below_size (by repeat (first | (with_reducible first | exact HB.out | apply below_alloc | apply pw_below_drewN | apply below_drew1) | exact HB.out))));(case aL => have := LMc56.out;omega);intro v129 w58 ho hb hg hat;rw [← Ny128.out] at ho;have n0_ := Aside0.mk (Kd.S_over' (by (with_reducible repeat (first | apply Kd.S_alloc | apply Kd.S_drewN | apply Kd.S_drew));exact HO_5.out) (Kd.R_typed (by (with_reducible repeat (first | apply Kd.R_alloc | apply Kd.R_drewN | apply Kd.R_drew));exact HO_6.out)) (by decide) hg);have n1_ := Aside0.mk (hb);have n2_ := Aside0.mk (ho);clear HO_5;clear HB;clear HO_6;have HO_5 := n0_;have HB := n1_;have HO130 := n2_;clear n0_ n1_ n2_;clear ho hb hg hat))
             go_roundg kj11
             case measure => have := HK1.out;have := HJ6.out;have := HJ9.out;have := HJ11.out;omega
             case rel => exact ⟨(y128),(x7_1),(wrap64 (x8_1 + 1)),(by first | rfl | (simp only [IntKind.wrap_i64,wrap64];done) | (simp;done) | (simp [*];done)),(by first | rfl | (simp only [IntKind.wrap_i64,wrap64];done) | (simp;done) | (simp [*];done)),H',⟨by have := HK1.out;have := HJ6.out;have := HJ9.out;have := HJ11.out;omega⟩,⟨by (with_reducible repeat (first | apply Kd.S_alloc | apply Kd.S_drewN | apply Kd.S_drew));exact HO_5.out⟩,⟨by (with_reducible repeat (first | apply Kd.R_alloc | apply Kd.R_drewN | apply Kd.R_drew));exact HO130.out⟩,⟨by repeat (first | (with_reducible first | exact HB.out | apply below_alloc | apply pw_below_drewN | apply below_drew1) | exact HB.out)⟩⟩
            ·rw [if_neg c56] at H;exact absurd H (by simp)
     ·replace c9 := Bool.eq_false_iff.mpr c9;subst c9
      have H1 : (some x6_1) = some r := by rw [if_neg (show ¬ (false = true) by decide)] at H;exact H
      clear H;have H := H1;clear H1;obtain rfl := Option.some.inj H
      go_wp2
      go_ret
      exact ⟨_,by first | rfl | (simp [errW_none,errW_some,IntKind.wrap_i64,wrap64];done) | (simp [errW_none,errW_some] <;> rfl) | (simp [*,errW_none,errW_some] <;> rfl),by (with_reducible repeat (first | apply Kd.R_alloc | apply Kd.R_drewN | apply Kd.R_drew));exact HO_6.out,by repeat (first | (with_reducible first | exact HB.out | apply below_alloc | apply pw_below_drewN | apply below_drew1) | exact HB.out)⟩
end Go.Proofs.Ytidkniacmcbgiaa.G
end

section
namespace Go.Proofs.Ytidkniacmcbgiaa.G
open Go.RowKit Go.Proofs.YtidkniacmcbgiaaW.PrintWords Go.Proofs.YtidkniacmcbgiaaW.PrintLast Go.Proofs.YtidkniacmcbgiaaW.PrintMore
attribute [local go_sem] max2_int min2_int max_two min_two max_three min_three max_four min_four
set_option linter.unusedVariables false
set_option linter.unusedSimpArgs false
def impl_StoryOf.f (k : Nat) (l0 : List (S73)) (l1 : List (S73)) : Option ((List (S100)) × Int) := (impl_logsCode.f l0 l1).bind fun t101 => (if t101 = 0 then ((impl_story.f k l0 l1).bind fun t102 => (some (t102,0))) else (some (([] : List (S100)),t101)))
set_option maxHeartbeats 8000000 in
set_option maxRecDepth 100000 in
theorem impl_StoryOf.calls (k : Nat) (A0 : Option Addr) (c0 : Nat) (l0 : List (S73)) (A1 : Option Addr) (c1 : Nat) (l1 : List (S73)) (r1 : List (S100)) (r2 : Int) (w : World) (hr0 : Kd.C k73 w A0 l0.length l0) (hc0 : l0.length ≤ c0) (hr1 : Kd.C k73 w A1 l1.length l1) (hc1 : l1.length ≤ c1) (h : impl_StoryOf.f k l0 l1 = some (r1,r2)) :
  Calls Try.prog 63 #[.slice A0 l0.length c0,.slice A1 l1.length c1] w fun e w' => ∃ v0_ : Value,e = .returned (.tuple #[v0_,.int .i64 r2]) ∧ Kd.R k100 100 w' w.heap.size (fun _ => True) v0_ r1 ∧ Below w.heap.size w w' := by
 have HR0 := Aside0.mk hr0;have HC0 := Aside0.mk hc0;clear hr0 hc0;have HR1 := Aside0.mk hr1;have HC1 := Aside0.mk hc1;clear hr1 hc1;have HB := Aside0.mk (Below.refl w.heap.size w);have H : ((impl_logsCode.f l0 l1).bind fun t101 => (if t101 = 0 then ((impl_story.f k l0 l1).bind fun t102 => (some (t102,0))) else (some (([] : List (S100)),t101)))) = some (r1,r2) := h;clear h;replace H := Option.bind_eq_some_iff.mp H;obtain ⟨t101,A30,H⟩ := H;replace H : (if t101 = 0 then ((impl_story.f k l0 l1).bind fun t102 => (some (t102,0))) else (some (([] : List (S100)),t101))) = some (r1,r2) := H;have A3 := Aside0.mk A30;clear A30
 by_cases c4 : t101 = 0
 ·rw [if_pos c4] at H;have c4b0 : (t101 == 0) = true := beq_iff_eq.mpr c4;have c4b1 : (t101 != 0) = false := bne_eq_false_iff_eq.mpr c4;clear c4;replace H := Option.bind_eq_some_iff.mp H;obtain ⟨t102,A50,H⟩ := H;replace H : (some (t102,0)) = some (r1,r2) := H;have A5 := Aside0.mk A50;clear A50;simp only [Option.some.injEq,Prod.mk.injEq] at H;obtain ⟨rfl,rfl⟩ := H
  go_enter Try.func63,Try.ntmps63
  go_wp2_with (first | ((with_reducible refine gate_callee (f := 86) rfl ?_);refine goesL_ (some 9) rfl rfl Try.func86 (by kernel_rfl) rfl #[.slice A0 l0.length c0,.slice A1 l1.length c1] rfl (by (try simp only [List.map_toArray,List.map_cons,List.map_nil]);first | done | rfl | (simp only [List.length_drop,List.length_take];rfl)) ?_;(with_reducible refine (impl_logsCode.calls _ _ l0 _ _ l1 t101 _ ?side1 ?side2 ?side3 ?side4 A3.out).mono ?_);(case side1 => repeat (first | exact HR0.out | (with_reducible refine Kd.C_alloc ?_ _) | (with_reducible refine Kd.C_drewN ?_ _) | (with_reducible refine Kd.C_drew ?_)));(case side2 => exact HC0.out);(case side3 => repeat (first | exact HR1.out | (with_reducible refine Kd.C_alloc ?_ _) | (with_reducible refine Kd.C_drewN ?_ _) | (with_reducible refine Kd.C_drew ?_)));(case side4 => exact HC1.out);rintro e w6 ⟨rfl,hb⟩;refine ⟨_,rfl,?_⟩;have n0_ := Aside0.mk (below_step (by repeat (first | (with_reducible first | exact HB.out | apply below_alloc | apply pw_below_drewN | apply below_drew1) | exact HB.out)) hb);clear HB;have HB := n0_;clear n0_;(try clear hb);(try clear hb2);(try clear hk);(try clear hi)) | ((with_reducible refine gate_callee (f := 111) rfl ?_);refine goesL_ (some 15) rfl rfl Try.func111 (by kernel_rfl) rfl #[.slice A0 l0.length c0,.slice A1 l1.length c1] rfl (by (try simp only [List.map_toArray,List.map_cons,List.map_nil]);first | done | rfl | (simp only [List.length_drop,List.length_take];rfl)) ?_;(with_reducible refine (impl_story.calls k _ _ l0 _ _ l1 t102 _ ?side1 ?side2 ?side3 ?side4 A5.out).mono ?_);(case side1 => repeat (first | exact (Kd.C_below HR0.out HB.out) | (with_reducible refine Kd.C_alloc ?_ _) | (with_reducible refine Kd.C_drewN ?_ _) | (with_reducible refine Kd.C_drew ?_)));(case side2 => exact HC0.out);(case side3 => repeat (first | exact (Kd.C_below HR1.out HB.out) | (with_reducible refine Kd.C_alloc ?_ _) | (with_reducible refine Kd.C_drewN ?_ _) | (with_reducible refine Kd.C_drew ?_)));(case side4 => exact HC1.out);rintro e w7 ⟨v103,rfl,ho0,hb⟩;refine ⟨_,rfl,?_⟩;have n0_ := Aside0.mk (Kd.R_lower ho0 (below_size (by repeat (first | (with_reducible first | exact HB.out | apply below_alloc | apply pw_below_drewN | apply below_drew1) | exact HB.out))));have n1_ := Aside0.mk (below_step (by repeat (first | (with_reducible first | exact HB.out | apply below_alloc | apply pw_below_drewN | apply below_drew1) | exact HB.out)) hb);clear HB;have HO104 := n0_;have HB := n1_;clear n0_ n1_;(try clear hb);(try clear hb2);(try clear hk);(try clear hi);(try clear ho0)))
  go_ret2
  exact ⟨_,by first | rfl | (simp [errW_none,errW_some,IntKind.wrap_i64,wrap64];done) | (simp [errW_none,errW_some] <;> rfl) | (simp [*,errW_none,errW_some] <;> rfl),by (with_reducible repeat (first | apply Kd.R_alloc | apply Kd.R_drewN | apply Kd.R_drew));exact HO104.out,by repeat (first | (with_reducible first | exact HB.out | apply below_alloc | apply pw_below_drewN | apply below_drew1) | exact HB.out)⟩
 ·rw [if_neg c4] at H;have c4b0 : (t101 == 0) = false := beq_eq_false_iff_ne.mpr c4;have c4b1 : (t101 != 0) = true := bne_iff_ne.mpr c4;simp only [Option.some.injEq,Prod.mk.injEq] at H;obtain ⟨rfl,rfl⟩ := H
  go_enter Try.func63,Try.ntmps63
  go_wp2_with (first | ((with_reducible refine gate_callee (f := 86) rfl ?_);refine goesL_ (some 9) rfl rfl Try.func86 (by kernel_rfl) rfl #[.slice A0 l0.length c0,.slice A1 l1.length c1] rfl (by (try simp only [List.map_toArray,List.map_cons,List.map_nil]);first | done | rfl | (simp only [List.length_drop,List.length_take];rfl)) ?_;(with_reducible refine (impl_logsCode.calls _ _ l0 _ _ l1 t101 _ ?side1 ?side2 ?side3 ?side4 A3.out).mono ?_);(case side1 => repeat (first | exact HR0.out | (with_reducible refine Kd.C_alloc ?_ _) | (with_reducible refine Kd.C_drewN ?_ _) | (with_reducible refine Kd.C_drew ?_)));(case side2 => exact HC0.out);(case side3 => repeat (first | exact HR1.out | (with_reducible refine Kd.C_alloc ?_ _) | (with_reducible refine Kd.C_drewN ?_ _) | (with_reducible refine Kd.C_drew ?_)));(case side4 => exact HC1.out);rintro e w8 ⟨rfl,hb⟩;refine ⟨_,rfl,?_⟩;have n0_ := Aside0.mk (below_step (by repeat (first | (with_reducible first | exact HB.out | apply below_alloc | apply pw_below_drewN | apply below_drew1) | exact HB.out)) hb);clear HB;have HB := n0_;clear n0_;(try clear hb);(try clear hb2);(try clear hk);(try clear hi)))
  go_ret2
  exact ⟨_,by first | rfl | (simp [errW_none,errW_some,IntKind.wrap_i64,wrap64];done) | (simp [errW_none,errW_some] <;> rfl) | (simp [*,errW_none,errW_some] <;> rfl),by first | exact Kd.R_nil _ _ _ _ _ | exact Kd.N_nil _ _ _ _ _ | exact Kd.V_nil _ _ _ _ _ | exact Kd.Q_nil _ _ _ _ _ | exact Kd.S_nil _ _ _ _ _,by repeat (first | (with_reducible first | exact HB.out | apply below_alloc | apply pw_below_drewN | apply below_drew1) | exact HB.out)⟩
end Go.Proofs.Ytidkniacmcbgiaa.G
end
