/- The law's functions, their contracts, and the plain lemmas: texts of this claim, laid together. -/
import Derived.Deep.Slices
import Derived.Deep.Fields
import Derived.ChangeSame
import Derived.OpenShut
import Derived.Test.YtheenidapjkboaaMFnExactReadByAll0
import Derived.Test.YtheenidapjkboaaMFnExactReadByAll1
import Derived.Test.YtheenidapjkboaaMFnExactReadByAll2
import Derived.Test.YtheenidapjkboaaMFnExactReadByAll3
section
namespace Go.Proofs.Ytheenidapjkboaa.G
open Go.RowKit Go.Proofs.YtheenidapjkboaaW.PrintWords Go.Proofs.YtheenidapjkboaaW.PrintLast Go.Proofs.YtheenidapjkboaaW.PrintMore
attribute [local go_sem] max2_int min2_int max_two min_two max_three min_three max_four min_four
set_option linter.unusedVariables false
set_option linter.unusedSimpArgs false
mutual
def spec_l06Read.l0 : Nat → List (S144) → List (S106) → List (List Int) → Int → Option ((List (List Int)))
 | 0,_,_,_,_ => none
 | k + 1,x2,x7,x8,x9 => if x9 < (x7.length : Int) then ((some (([] : List Int) : List Int)).bind fun y113 => (if 0 ≤ x9 then (if ((rd_T106 x7 x9).f0) ≥ 0 then (if 0 ≤ ((rd_T106 x7 x9).f0) then (if ((rd_T106 x7 x9).f0) < (x8.length : Int) then (if y113.length + (rd_L2 x8 ((rd_T106 x7 x9).f0)).length < 140737488355328 then (spec_l06Read.l1 k x2 x7 x8 x9 (y113 ++ (rd_L2 x8 ((rd_T106 x7 x9).f0))) 0) else (none)) else (none)) else (none)) else (if x8.length < 5864062014805 then (spec_l06Read.l0 k x2 x7 (x8 ++ [y113]) (wrap64 (x9 + 1))) else (none))) else (none))) else (some x8)
def spec_l06Read.l1 : Nat → List (S144) → List (S106) → List (List Int) → Int → List Int → Int → Option ((List (List Int)))
 | 0,_,_,_,_,_,_ => none
 | k + 1,x2,x7,x8,x9,x10,x11 => if x11 < (x2.length : Int) then (if 0 ≤ x11 then (if (wrap64 ((rd_T144 x2 x11).f0)) = x9 then (if 0 ≤ ((rd_T144 x2 x11).f1) then (if ((rd_T144 x2 x11).f1) < (x10.length : Int) then (spec_l06Read.l1 k x2 x7 x8 x9 (x10.set (((rd_T144 x2 x11).f1) : Int).toNat ((rd_T144 x2 x11).f2)) (wrap64 (x11 + 1))) else (none)) else (none)) else (spec_l06Read.l1 k x2 x7 x8 x9 x10 (wrap64 (x11 + 1)))) else (none)) else (if x8.length < 5864062014805 then (spec_l06Read.l0 k x2 x7 (x8 ++ [x10]) (wrap64 (x9 + 1))) else (none))
end
def spec_l06Read.f (k : Nat) (l0 : List (S109)) (l1 : List Int) (l2 : List (S144)) : Option ((List (List Int))) := (spec_l06Times.f k l0 (-1) 0).bind fun t101 => ((some (([] : List Int) : List Int)).bind fun y104 => (if y104.length + l1.length < 140737488355328 then (spec_l06Read.l0 k l2 t101 (([(y104 ++ l1)] : List (List Int))) 1) else (none)))
def spec_l06Read.T13 : Bool × List (List Nat × List Nat) := (true,[([],[]),([],[]),([],[]),([1,2],[1,2]),([3],[3]),([4],[4]),([],[]),([],[]),([6,7],[6,7]),([8],[8]),([9],[9]),([0,5,0,1,2,3,4,5,6,7,8,9,10],[0,5]),([11,10,0,1,2,3,4,5,6,7,8,9,10],[10,11])])
def spec_l06Read.B13 : List Nat := [0,0,0,6,14,30,0,0,192,448,960,2047,4095]
theorem spec_l06Read.tab13 : rtab .any (opsOf Try.f98 13) = spec_l06Read.T13 := by kernel_rfl
theorem spec_l06Read.bits13 : waitsOk spec_l06Read.T13.2 spec_l06Read.B13 = true := by kernel_rfl
set_option maxHeartbeats 8000000 in
set_option maxRecDepth 100000 in
theorem spec_l06Read.calls (k : Nat) (A0 : Option Addr) (c0 : Nat) (l0 : List (S109)) (A1 : Option Addr) (c1 : Nat) (l1 : List Int) (A2 : Option Addr) (c2 : Nat) (l2 : List (S144)) (r : List (List Int)) (w : World) (hr0 : Kd.C k109 w A0 l0.length l0) (hc0 : l0.length ≤ c0) (hr1 : Kd.C (Kd.int .i8) w A1 l1.length l1) (hc1 : l1.length ≤ c1) (hr2 : Kd.C k144 w A2 l2.length l2) (hc2 : l2.length ≤ c2) (h : spec_l06Read.f k l0 l1 l2 = some r) :
  Calls Try.prog 98 #[.slice A0 l0.length c0,.slice A1 l1.length c1,.slice A2 l2.length c2] w fun e w' => ∃ v0_ : Value,e = .returned (v0_) ∧ Kd.N (Kd.slice 104 (Kd.int .i8)) 31 w' w.heap.size (fun k_ => (w.heap.size ≤ k_)) v0_ r ∧ Below w.heap.size w w' := by
 have HR0 := Aside0.mk hr0;have HC0 := Aside0.mk hc0;clear hr0 hc0;have HR1 := Aside0.mk hr1;have HC1 := Aside0.mk hc1;clear hr1 hc1;have HR2 := Aside0.mk hr2;have HC2 := Aside0.mk hc2;clear hr2 hc2;have HB := Aside0.mk (Below.refl w.heap.size w);have H : ((spec_l06Times.f k l0 (-1) 0).bind fun t101 => ((some (([] : List Int) : List Int)).bind fun y104 => (if y104.length + l1.length < 140737488355328 then (spec_l06Read.l0 k l2 t101 (([(y104 ++ l1)] : List (List Int))) 1) else (none)))) = some r := h;clear h;replace H := Option.bind_eq_some_iff.mp H;obtain ⟨t101,A40,H⟩ := H;replace H : ((some (([] : List Int) : List Int)).bind fun y104 => (if y104.length + l1.length < 140737488355328 then (spec_l06Read.l0 k l2 t101 (([(y104 ++ l1)] : List (List Int))) 1) else (none))) = some r := H;have A4 := Aside0.mk A40;clear A40;obtain ⟨y104,hy104⟩ : ∃ y_ : List Int,y_ = (([] : List Int)) := ⟨_,rfl⟩
 replace H : (if y104.length + l1.length < 140737488355328 then (spec_l06Read.l0 k l2 t101 (([(y104 ++ l1)] : List (List Int))) 1) else (none)) = some r := by first | (rw [hy104];with_reducible exact H) | (have H2_ := (Option.bind_some _ _).symm.trans H;rw [hy104];with_reducible exact H2_) | (have H2_ := (Option.bind_some _ _).symm.trans H;with_reducible exact H2_) | with_reducible exact H | (rw [hy104];exact H) | exact H
 have Ny104 := Aside0.mk hy104;clear hy104
 by_cases c5 : y104.length + l1.length < 140737488355328
 ·rw [if_pos c5] at H;have LMc5 := Aside0.mk c5;clear c5;obtain ⟨y107,hy107⟩ : ∃ y_ : List Int,y_ = (y104 ++ l1) := ⟨_,rfl⟩
  replace H : (spec_l06Read.l0 k l2 t101 (([y107] : List (List Int))) 1) = some r := by first | (rw [hy107];with_reducible exact H) | (have H2_ := (Option.bind_some _ _).symm.trans H;rw [hy107];with_reducible exact H2_) | (have H2_ := (Option.bind_some _ _).symm.trans H;with_reducible exact H2_) | with_reducible exact H | (rw [hy107];exact H) | exact H
  have Ny107 := Aside0.mk hy107;clear hy107;obtain ⟨y110,hy110⟩ : ∃ y_ : List (List Int),y_ = (([y107] : List (List Int))) := ⟨_,rfl⟩
  replace H : (spec_l06Read.l0 k l2 t101 y110 1) = some r := by first | (rw [hy110];with_reducible exact H) | (have H2_ := (Option.bind_some _ _).symm.trans H;rw [hy110];with_reducible exact H2_) | (have H2_ := (Option.bind_some _ _).symm.trans H;with_reducible exact H2_) | with_reducible exact H | (rw [hy110];exact H) | exact H
  have Ny110 := Aside0.mk hy110;clear hy110;have H' := Aside0.mk H;clear H
  go_enter Try.func98,Try.ntmps98
  go_wp2_with (first | ((with_reducible refine gate_callee (f := 68) rfl ?_);refine goesL_ (some 13) rfl rfl Try.func68 (by kernel_rfl) rfl #[.slice A0 l0.length c0,.int .i64 (-1),.int .i64 0] rfl (by (try simp only [List.map_toArray,List.map_cons,List.map_nil]);first | done | rfl | (simp only [List.length_drop,List.length_take];rfl)) ?_;(with_reducible refine (spec_l06Times.calls k _ _ l0 (-1) 0 t101 _ ?side1 ?side2 A4.out).mono ?_);(case side1 => repeat (first | exact HR0.out | (with_reducible refine Kd.C_alloc ?_ _) | (with_reducible refine Kd.C_drewN ?_ _) | (with_reducible refine Kd.C_drew ?_)));(case side2 => exact HC0.out);rintro e w6 ⟨v102,rfl,ho0,hb⟩;refine ⟨_,rfl,?_⟩;have n0_ := Aside0.mk (Kd.R_lower (Kd.R_newM (M := fun k_ => (w.heap.size ≤ k_)) ho0 (below_size (by repeat (first | (with_reducible first | exact HB.out | apply below_alloc | apply pw_below_drewN | apply below_drew1) | exact HB.out))) (fun k_ h_ => h_)) (below_size (by repeat (first | (with_reducible first | exact HB.out | apply below_alloc | apply pw_below_drewN | apply below_drew1) | exact HB.out))));have n1_ := Aside0.mk (below_step (by repeat (first | (with_reducible first | exact HB.out | apply below_alloc | apply pw_below_drewN | apply below_drew1) | exact HB.out)) hb);clear HB;have HO103 := n0_;have HB := n1_;clear n0_ n1_;(try clear hb);(try clear hb2);(try clear hk);(try clear hi);(try clear ho0)) | ((with_reducible refine gate_dst (N := 14) rfl ?_);refine Kd.R_lit (Kd.int .i8) _ 104 ?hg (N := 14) ?hd (xs := ([] : List Int)) (inner := []) (ok := fun _ => True) (okp := fun _ => True) ?hr ?hp (fun _ hk => hk) trivial (Below.refl _ _) (Nat.le_refl _) (by simp) ?_;(case hd => rfl);(case hg => rfl);(case hr => first | (go_simp;done) | (go_simp;rfl));(case hp => exact (Reps.none _ _));intro v105 w7 ho8 hb hg_ hnew_;clear hg_ hnew_;(first | rw [← Ny104.out] at ho8 | (simp only [Int.reduceToNat] at ho8;rw [← Ny104.out] at ho8));have n0_ := Aside0.mk (Kd.R_below (by (with_reducible repeat (first | apply Kd.R_alloc | apply Kd.R_drewN | apply Kd.R_drew));exact HO103.out) hb);have n1_ := Aside0.mk (Kd.R_lower (Kd.R_newM (M := fun k_ => (w.heap.size ≤ k_)) ho8 (below_size (by repeat (first | (with_reducible first | exact HB.out | apply below_alloc | apply pw_below_drewN | apply below_drew1) | exact HB.out))) (fun k_ h_ => h_)) (below_size (by repeat (first | (with_reducible first | exact HB.out | apply below_alloc | apply pw_below_drewN | apply below_drew1) | exact HB.out))));have n2_ := Aside0.mk (below_step (by repeat (first | (with_reducible first | exact HB.out | apply below_alloc | apply pw_below_drewN | apply below_drew1) | exact HB.out)) hb);clear HO103;clear HB;have HO103 := n0_;have HO106 := n1_;have HB := n2_;clear n0_ n1_ n2_;clear hb ho8) | ((with_reducible refine gate_builtin (b := .append) (xs := #[.tmp 14,.tmp 15]) rfl ?_);at_builtin;refine Kd.R_append_rows (Kd.int .i8) (w0 := w) w.heap.size rfl (.tmp 14) (.tmp 15) 31 104 (.int .i8 0) 1 rfl Try.underlying31 info104 rfl (by decide) (by omega) v105 y104 l1 _ _ _ (fun k_ => (w.heap.size ≤ k_)) (fun _ => False) rfl rfl ?aO ?aR (fun _ _ h => h) (fun _ h => h.elim) ?aF ?aB ?aS ?aL ?_;(case aR => repeat (first | exact (Kd.C_below HR1.out HB.out) | (with_reducible refine Kd.C_alloc ?_ _) | (with_reducible refine Kd.C_drewN ?_ _) | (with_reducible refine Kd.C_drew ?_)));(case aB => exact (by repeat (first | (with_reducible first | exact HB.out | apply below_alloc | apply pw_below_drewN | apply below_drew1) | exact HB.out)));(case aF => exact (fun k_ hk => (Nat.le_trans (below_size (by repeat (first | (with_reducible first | exact HB.out | apply below_alloc | apply pw_below_drewN | apply below_drew1) | exact HB.out))) hk)));(case aO => exact (by (with_reducible repeat (first | apply Kd.R_alloc | apply Kd.R_drewN | apply Kd.R_drew));exact Kd.R_mono HO106.out (fun _ hk => hk.1)));(case aS => exact (below_size (by repeat (first | (with_reducible first | exact HB.out | apply below_alloc | apply pw_below_drewN | apply below_drew1) | exact HB.out))));(case aL => have := LMc5.out;omega);intro v108 w9 ho hb hg hat;rw [← Ny107.out] at ho;have n0_ := Aside0.mk (Kd.R_over' (by (with_reducible repeat (first | apply Kd.R_alloc | apply Kd.R_drewN | apply Kd.R_drew));exact HO103.out) (Kd.R_typed (by (with_reducible repeat (first | apply Kd.R_alloc | apply Kd.R_drewN | apply Kd.R_drew));exact HO106.out)) (by decide) hg);have n1_ := Aside0.mk (hb);have n2_ := Aside0.mk (ho);clear HO103;clear HB;clear HO106;have HO103 := n0_;have HB := n1_;have HO109 := n2_;clear n0_ n1_ n2_;clear ho hb hg hat;obtain ⟨Ao10,co10,eo10⟩ := Kd.R_slice HO109.out;subst eo10) | ((with_reducible refine gate_dst (N := 17) rfl ?_);refine Kd.N_lit (Kd.slice 104 (Kd.int .i8)) _ 31 ?hg (N' := 17) ?hd (xs := ([y107] : List (List Int))) (inner := [.slice Ao10 y107.length co10]) (ok := (fun k_ => (w.heap.size ≤ k_) ∧ some k_ ≠ (v102 : Value).ownBlock)) (okp := (fun k_ => (w.heap.size ≤ k_) ∧ some k_ ≠ (v102 : Value).ownBlock)) ?hr ?hp (fun _ hk => hk) ((show ∀ k_,w9.heap.size ≤ k_ → (fun k_ => (w.heap.size ≤ k_) ∧ some k_ ≠ (v102 : Value).ownBlock) k_ from fun k_ hk => ⟨(Nat.le_trans (below_size (by repeat (first | (with_reducible first | exact HB.out | apply below_alloc | apply pw_below_drewN | apply below_drew1) | exact HB.out))) hk),Kd.fresh' (Kd.R_lt (by (with_reducible repeat (first | apply Kd.R_alloc | apply Kd.R_drewN | apply Kd.R_drew));exact HO103.out)) k_ hk⟩) _ (Nat.le_refl _)) (Below.refl _ _) (Nat.le_refl _) (by simp) ?_;(case hd => rfl);(case hg => rfl);(case hr => first | (go_simp;done) | (go_simp;rfl));(case hp => exact (Reps.one (show Kd.FK (Kd.slice 104 (Kd.int .i8)) _ _ y107 [.slice Ao10 y107.length co10] from (Kd.FK_slice_mk (Kd.R_reads' (Kd.R_mono (ok' := (fun k_ => (w.heap.size ≤ k_) ∧ some k_ ≠ (v102 : Value).ownBlock)) (Kd.R_apart' (HO109.out) (Kd.R_typed HO103.out) (by decide)) (fun k_ hk => ⟨hk.1,hk.2⟩))).2.1 (Kd.R_F (Kd.R_mono (ok' := (fun k_ => (w.heap.size ≤ k_) ∧ some k_ ≠ (v102 : Value).ownBlock)) (Kd.R_apart' (HO109.out) (Kd.R_typed HO103.out) (by decide)) (fun k_ hk => ⟨hk.1,hk.2⟩))))) (Reps.none _ _)));intro v111 w11 ho12 hb hg_ hnew_;clear hg_ hnew_;(first | rw [← Ny110.out] at ho12 | (simp only [Int.reduceToNat] at ho12;rw [← Ny110.out] at ho12));have n0_ := Aside0.mk (Kd.R_below (by (with_reducible repeat (first | apply Kd.R_alloc | apply Kd.R_drewN | apply Kd.R_drew));exact HO103.out) hb);have n1_ := Aside0.mk (Kd.N_lower ho12 (below_size (by repeat (first | (with_reducible first | exact HB.out | apply below_alloc | apply pw_below_drewN | apply below_drew1) | exact HB.out))));have n2_ := Aside0.mk (below_step (by repeat (first | (with_reducible first | exact HB.out | apply below_alloc | apply pw_below_drewN | apply below_drew1) | exact HB.out)) hb);clear HO103;clear HB;clear HO109;have HO103 := n0_;have HO112 := n1_;have HB := n2_;clear n0_ n1_ n2_;clear hb ho12))
  go_loopg [8,9] k (fun kq v8 v9 w' => ∃ (x8_1 : List (List Int)) (x9_1 : Int),v9 = .int .i64 x9_1 ∧ Aside0 (spec_l06Read.l0 kq l2 t101 x8_1 x9_1 = some r) ∧ Aside0 (kq ≤ k) ∧ Aside0 (Kd.R k106 106 w' w.heap.size (fun k_ => (w.heap.size ≤ k_)) v102 t101) ∧ Aside0 (Kd.N (Kd.slice 104 (Kd.int .i8)) 31 w' w.heap.size (fun k_ => (w.heap.size ≤ k_) ∧ some k_ ≠ (v102 : Value).ownBlock) v8 x8_1) ∧ Aside0 (Below w.heap.size w w'))
  case atStart => exact ⟨(y110),(1),(by first | rfl | (simp only [IntKind.wrap_i64,wrap64];done) | (simp;done) | (simp [*];done)),H',⟨Nat.le_refl _⟩,⟨by (with_reducible repeat (first | apply Kd.R_alloc | apply Kd.R_drewN | apply Kd.R_drew));exact Kd.R_mono HO103.out (fun _ hk => hk.1)⟩,⟨by (with_reducible repeat (first | apply Kd.N_alloc | apply Kd.N_drewN | apply Kd.N_drew));exact HO112.out⟩,⟨by repeat (first | (with_reducible first | exact HB.out | apply below_alloc | apply pw_below_drewN | apply below_drew1) | exact HB.out)⟩⟩
  case round =>
   clear H';(try clear c1);(try clear c2);(try clear p2);(try clear c5);(try clear c6);(try clear c9);obtain ⟨x8_1,x9_1,rfl,HA,HK1,HO_7,HO_8,HB⟩ := hrel
   cases gk with
   | zero => exact absurd HA.out (by simp [spec_l06Read.l0])
   | succ k1 =>
    have H := HA.out;clear HA;simp only [spec_l06Read.l0] at H
    by_cases c13 : x9_1 < (t101.length : Int)
    ·rw [if_pos c13] at H;have c13b0 : decide (x9_1 < (t101.length : Int)) = true := decide_eq_true c13;clear c13;obtain ⟨y113,hy113⟩ : ∃ y_ : List Int,y_ = (([] : List Int)) := ⟨_,rfl⟩
     replace H : (if 0 ≤ x9_1 then (if ((rd_T106 t101 x9_1).f0) ≥ 0 then (if 0 ≤ ((rd_T106 t101 x9_1).f0) then (if ((rd_T106 t101 x9_1).f0) < (x8_1.length : Int) then (if y113.length + (rd_L2 x8_1 ((rd_T106 t101 x9_1).f0)).length < 140737488355328 then (spec_l06Read.l1 k1 l2 t101 x8_1 x9_1 (y113 ++ (rd_L2 x8_1 ((rd_T106 t101 x9_1).f0))) 0) else (none)) else (none)) else (none)) else (if x8_1.length < 5864062014805 then (spec_l06Read.l0 k1 l2 t101 (x8_1 ++ [y113]) (wrap64 (x9_1 + 1))) else (none))) else (none)) = some r := by first | (rw [hy113];with_reducible exact H) | (have H2_ := (Option.bind_some _ _).symm.trans H;rw [hy113];with_reducible exact H2_) | (have H2_ := (Option.bind_some _ _).symm.trans H;with_reducible exact H2_) | with_reducible exact H | (rw [hy113];exact H) | exact H
     have Ny113 := Aside0.mk hy113;clear hy113
     by_cases c14 : 0 ≤ x9_1
     ·rw [if_pos c14] at H;have c14b0 : decide (0 ≤ x9_1) = true := decide_eq_true c14;clear c14
      by_cases c15 : ((rd_T106 t101 x9_1).f0) ≥ 0
      ·rw [if_pos c15] at H;have c15b0 : decide (0 ≤ ((rd_T106 t101 x9_1).f0)) = true := decide_eq_true c15;clear c15
       by_cases c16 : 0 ≤ ((rd_T106 t101 x9_1).f0)
       ·rw [if_pos c16] at H;have c16b0 : decide (0 ≤ ((rd_T106 t101 x9_1).f0)) = true := decide_eq_true c16;clear c16
        by_cases c17 : ((rd_T106 t101 x9_1).f0) < (x8_1.length : Int)
        ·rw [if_pos c17] at H;have c17b0 : decide (((rd_T106 t101 x9_1).f0) < (x8_1.length : Int)) = true := decide_eq_true c17;clear c17
         by_cases c18 : y113.length + (rd_L2 x8_1 ((rd_T106 t101 x9_1).f0)).length < 140737488355328
         ·rw [if_pos c18] at H;have LMc18 := Aside0.mk c18;clear c18;obtain ⟨y119,hy119⟩ : ∃ y_ : List Int,y_ = (y113 ++ (rd_L2 x8_1 ((rd_T106 t101 x9_1).f0))) := ⟨_,rfl⟩
          replace H : (spec_l06Read.l1 k1 l2 t101 x8_1 x9_1 y119 0) = some r := by first | (rw [hy119];with_reducible exact H) | (have H2_ := (Option.bind_some _ _).symm.trans H;rw [hy119];with_reducible exact H2_) | (have H2_ := (Option.bind_some _ _).symm.trans H;with_reducible exact H2_) | with_reducible exact H | (rw [hy119];exact H) | exact H
          have Ny119 := Aside0.mk hy119;clear hy119;have H' := Aside0.mk H;clear H;obtain ⟨Ao19,co19,eo19⟩ := Kd.R_slice HO_7.out;subst eo19
          go_wp2_with (first | ((with_reducible refine gate_dst (N := 24) rfl ?_);refine Kd.R_lit (Kd.int .i8) _ 104 ?hg (N := 24) ?hd (xs := ([] : List Int)) (inner := []) (ok := fun _ => True) (okp := fun _ => True) ?hr ?hp (fun _ hk => hk) trivial (Below.refl _ _) (Nat.le_refl _) (by simp) ?_;(case hd => rfl);(case hg => rfl);(case hr => first | (go_simp;done) | (go_simp;rfl));(case hp => exact (Reps.none _ _));intro v114 w20 ho21 hb hg_ hnew_;clear hg_ hnew_;(first | rw [← Ny113.out] at ho21 | (simp only [Int.reduceToNat] at ho21;rw [← Ny113.out] at ho21));have n0_ := Aside0.mk (Kd.R_below (by (with_reducible repeat (first | apply Kd.R_alloc | apply Kd.R_drewN | apply Kd.R_drew));exact HO_7.out) hb);have n1_ := Aside0.mk (Kd.N_elder' (by (with_reducible repeat (first | apply Kd.N_alloc | apply Kd.N_drewN | apply Kd.N_drew));exact HO_8.out) (Kd.R_base ho21) hb);have n2_ := Aside0.mk (Kd.R_lower (Kd.R_newM (M := fun k_ => (w.heap.size ≤ k_)) ho21 (below_size (by repeat (first | (with_reducible first | exact HB.out | apply below_alloc | apply pw_below_drewN | apply below_drew1) | exact HB.out))) (fun k_ h_ => h_)) (below_size (by repeat (first | (with_reducible first | exact HB.out | apply below_alloc | apply pw_below_drewN | apply below_drew1) | exact HB.out))));have n3_ := Aside0.mk (below_step (by repeat (first | (with_reducible first | exact HB.out | apply below_alloc | apply pw_below_drewN | apply below_drew1) | exact HB.out)) hb);clear HO_7;clear HO_8;clear HB;have HO_7 := n0_;have HO_8 := n1_;have HO115 := n2_;have HB := n3_;clear n0_ n1_ n2_ n3_;clear hb ho21;have p116 : 0 ≤ (x9_1 : Int) := of_decide_eq_true (by first | (with_reducible assumption) | assumption);have q116 : x9_1 < (t101.length : Int) := of_decide_eq_true (by first | (with_reducible assumption) | assumption);obtain ⟨ad116,e116,hx116_0,hx116_1,hx116_2,hx116_3⟩ := at_T106 (Kd.R_reads' HO_7.out).2.2 x9_1 p116 q116;cases e116;replace p116 := eq_true p116;replace q116 := eq_true q116;have p117 : 0 ≤ (x9_1 : Int) := of_decide_eq_true (by first | (with_reducible assumption) | assumption);have q117 : x9_1 < (t101.length : Int) := of_decide_eq_true (by first | (with_reducible assumption) | assumption);obtain ⟨ad117,e117,hx117_0,hx117_1,hx117_2,hx117_3⟩ := at_T106 (Kd.R_reads' HO_7.out).2.2 x9_1 p117 q117;obtain rfl : ad116 = ad117 := (by injection e117);replace p117 := eq_true p117;replace q117 := eq_true q117;obtain ⟨Ao22,co22,eo22⟩ := Kd.N_slice HO_8.out;subst eo22;have p118 : 0 ≤ (((rd_T106 t101 x9_1).f0) : Int) := of_decide_eq_true (by first | (with_reducible assumption) | assumption);have q118 : ((rd_T106 t101 x9_1).f0) < (x8_1.length : Int) := of_decide_eq_true (by first | (with_reducible assumption) | assumption);obtain ⟨ad118,A118_0,c118_0,e118,hx118_0,hl118_0,hi118_0⟩ := at_L2 (Kd.N_reads' HO_8.out).2.2 ((rd_T106 t101 x9_1).f0) p118 q118;cases e118;obtain ⟨ce118,hce118,hMe118,hcc118⟩ := Kd.N_get HO_8.out [] ((rd_T106 t101 x9_1).f0) p118 (by first | exact q118 | exact of_decide_eq_true (by first | (with_reducible assumption) | assumption) | (have e_ := (Kd.N_reads' HO_8.out).1;omega));obtain ⟨ua118_0,uc118_0,rfl,ul118_0,ge118_0⟩ := Kd.FK_slice_open hMe118;have hv118_0 := hcc118 0 _ rfl;rw [Nat.add_zero,show ((Kd.slice 104 (Kd.int .i8))).sz = 1 from rfl,Nat.mul_one] at hv118_0;replace hv118_0 := Option.some.inj (hv118_0.symm.trans hx118_0);injection hv118_0 with hva_ hvn_ hvc_;rw [hva_] at ge118_0;rw [hvc_] at ul118_0;have HL118_0 := Aside0.mk (show Kd.V (Kd.int .i8) 104 _ w.heap.size _ _ (rd_L2 x8_1 ((rd_T106 t101 x9_1).f0)) from Kd.V_mk ul118_0 ge118_0);clear hva_ hvn_ hvc_ ge118_0 ul118_0;clear hcc118 hce118;have HR118_0 := Aside0.mk hi118_0;have HC118_0 := Aside0.mk hl118_0;clear hi118_0 hl118_0;replace p118 := eq_true p118;replace q118 := eq_true q118) | ((with_reducible refine gate_builtin (b := .append) (xs := #[.tmp 31,.tmp 39]) rfl ?_);at_builtin;refine Kd.R_append_rows (Kd.int .i8) (w0 := w) w.heap.size rfl (.tmp 31) (.tmp 39) 31 104 (.int .i8 0) 1 rfl Try.underlying31 info104 rfl (by decide) (by omega) v114 y113 (rd_L2 x8_1 ((rd_T106 t101 x9_1).f0)) _ _ _ (fun k_ => (w.heap.size ≤ k_)) (fun _ => False) rfl rfl ?aO ?aR (fun _ _ h => h) (fun _ h => h.elim) ?aF ?aB ?aS ?aL ?_;(case aR => repeat (first | exact (by repeat (first | (with_reducible exact HR118_0.out) | (with_reducible refine Kd.C_alloc ?_ _) | (with_reducible refine Kd.C_drewN ?_ _) | (with_reducible refine Kd.C_drew ?_) | exact HR118_0.out)) | (with_reducible refine Kd.C_alloc ?_ _) | (with_reducible refine Kd.C_drewN ?_ _) | (with_reducible refine Kd.C_drew ?_)));(case aB => exact (by repeat (first | (with_reducible first | exact HB.out | apply below_alloc | apply pw_below_drewN | apply below_drew1) | exact HB.out)));(case aF => exact (fun k_ hk => (Nat.le_trans (below_size (by repeat (first | (with_reducible first | exact HB.out | apply below_alloc | apply pw_below_drewN | apply below_drew1) | exact HB.out))) hk)));(case aO => exact (by (with_reducible repeat (first | apply Kd.R_alloc | apply Kd.R_drewN | apply Kd.R_drew));exact Kd.R_mono HO115.out (fun _ hk => hk.1)));(case aS => exact (below_size (by repeat (first | (with_reducible first | exact HB.out | apply below_alloc | apply pw_below_drewN | apply below_drew1) | exact HB.out))));(case aL => have := LMc18.out;omega);intro v120 w23 ho hb hg hat;rw [← Ny119.out] at ho;have n0_ := Aside0.mk (Kd.R_over' (by (with_reducible repeat (first | apply Kd.R_alloc | apply Kd.R_drewN | apply Kd.R_drew));exact HO_7.out) (Kd.R_typed (by (with_reducible repeat (first | apply Kd.R_alloc | apply Kd.R_drewN | apply Kd.R_drew));exact HO115.out)) (by decide) hg);have n1_ := Aside0.mk (Kd.N_afterv (ok := (fun k_ => (w.heap.size ≤ k_) ∧ some k_ ≠ (.slice (some ad116) t101.length co19 : Value).ownBlock)) (by (with_reducible repeat (first | apply Kd.N_alloc | apply Kd.N_drewN | apply Kd.N_drew));exact HO_8.out) hg hat);have n2_ := Aside0.mk (Kd.V_afterv (ok := (fun k_ => (w.heap.size ≤ k_) ∧ some k_ ≠ (.slice (some ad116) t101.length co19 : Value).ownBlock ∧ some k_ ≠ (.slice (some ad118) x8_1.length co22 : Value).ownBlock)) (by (with_reducible repeat (first | apply Kd.V_alloc | apply Kd.V_drewN | apply Kd.V_drew));exact Kd.V_mono HL118_0.out (fun _ hk => ⟨⟨hk.1.1.1,⟨hk.1.1.2,hk.2⟩⟩,hk.1.2⟩)) hg hat);have n3_ := Aside0.mk (hb);have n4_ := Aside0.mk (ho);clear HO_7;clear HO_8;clear HL118_0;clear HB;clear HO115;have HO_7 := n0_;have HO_8 := n1_;have HL118_0 := n2_;have HB := n3_;have HO121 := n4_;clear n0_ n1_ n2_ n3_ n4_;clear ho hb hg hat))
          go_loopg [11] k1 (fun kq v11 w' => ∃ (x10_2 : List Int) (x11_2 : Int),v11 = .int .i64 x11_2 ∧ Aside0 (spec_l06Read.l1 kq l2 t101 x8_1 x9_1 x10_2 x11_2 = some r) ∧ Aside0 (kq ≤ k1) ∧ Aside0 (Kd.R k106 106 w' w.heap.size (fun k_ => (w.heap.size ≤ k_)) (.slice (some ad116) t101.length co19) t101) ∧ Aside0 (Kd.N (Kd.slice 104 (Kd.int .i8)) 31 w' w.heap.size (fun k_ => (w.heap.size ≤ k_) ∧ some k_ ≠ ((.slice (some ad116) t101.length co19) : Value).ownBlock ∧ some k_ ≠ (v120 : Value).ownBlock) (.slice (some ad118) x8_1.length co22) x8_1) ∧ Aside0 (Kd.R (Kd.int .i8) 104 w' w.heap.size (fun k_ => (w.heap.size ≤ k_)) v120 x10_2) ∧ Aside0 (Below w.heap.size w w'))
          case atStart => exact ⟨(y119),(0),(by first | rfl | (simp only [IntKind.wrap_i64,wrap64];done) | (simp;done) | (simp [*];done)),H',⟨Nat.le_refl _⟩,⟨by (with_reducible repeat (first | apply Kd.R_alloc | apply Kd.R_drewN | apply Kd.R_drew));exact HO_7.out⟩,⟨by (with_reducible repeat (first | apply Kd.N_alloc | apply Kd.N_drewN | apply Kd.N_drew));exact Kd.N_mono HO_8.out (fun _ hk => ⟨hk.1.1,⟨hk.1.2,hk.2⟩⟩)⟩,⟨by (with_reducible repeat (first | apply Kd.R_alloc | apply Kd.R_drewN | apply Kd.R_drew));exact HO121.out⟩,⟨by repeat (first | (with_reducible first | exact HB.out | apply below_alloc | apply pw_below_drewN | apply below_drew1) | exact HB.out)⟩⟩
          case round =>
           clear H';(try clear c1);(try clear p1);(try clear q1);(try clear hx1);(try clear c2);(try clear p2);(try clear c5);(try clear c6);(try clear p6);(try clear c9);(try clear c11);(try clear p11);(try clear q11);(try clear hx11);(try clear c13);(try clear c13b0);(try clear c14);(try clear c14b0);(try clear c15);(try clear c15b0);(try clear c16);(try clear c16b0);(try clear c17);(try clear c17b0);(try clear c18);(try clear hx116_0);(try clear hx116_1);(try clear hx116_2);(try clear hx116_3);(try clear hx117_0);(try clear hx117_1);(try clear hx117_2);(try clear hx117_3);(try clear hx118_0);(try clear p116);(try clear p117);(try clear p118);(try clear p2);(try clear q116);(try clear q117);(try clear q118);obtain ⟨x10_2,x11_2,rfl,HA,HK2,HO_7,HO_8,HO_10,HB⟩ := hrel
           cases gk with
           | zero => exact absurd HA.out (by simp [spec_l06Read.l1])
           | succ k2 =>
            have H := HA.out;clear HA;simp only [spec_l06Read.l1] at H
            by_cases c24 : x11_2 < (l2.length : Int)
            ·rw [if_pos c24] at H;have c24b0 : decide (x11_2 < (l2.length : Int)) = true := decide_eq_true c24;clear c24
             by_cases c25 : 0 ≤ x11_2
             ·rw [if_pos c25] at H;have c25b0 : decide (0 ≤ x11_2) = true := decide_eq_true c25;clear c25
              by_cases c26 : (wrap64 ((rd_T144 l2 x11_2).f0)) = x9_1
              ·rw [if_pos c26] at H;have c26b0 : ((wrap64 ((rd_T144 l2 x11_2).f0)) == x9_1) = true := beq_iff_eq.mpr c26;have c26b1 : ((wrap64 ((rd_T144 l2 x11_2).f0)) != x9_1) = false := bne_eq_false_iff_eq.mpr c26;clear c26
               by_cases c27 : 0 ≤ ((rd_T144 l2 x11_2).f1)
               ·rw [if_pos c27] at H;have c27b0 : decide (0 ≤ ((rd_T144 l2 x11_2).f1)) = true := decide_eq_true c27;clear c27
                by_cases c28 : ((rd_T144 l2 x11_2).f1) < (x10_2.length : Int)
                ·rw [if_pos c28] at H;have c28b0 : decide (((rd_T144 l2 x11_2).f1) < (x10_2.length : Int)) = true := decide_eq_true c28;clear c28;obtain ⟨y125,hy125⟩ : ∃ y_ : List Int,y_ = (x10_2.set (((rd_T144 l2 x11_2).f1) : Int).toNat ((rd_T144 l2 x11_2).f2)) := ⟨_,rfl⟩
                 replace H : (spec_l06Read.l1 k2 l2 t101 x8_1 x9_1 y125 (wrap64 (x11_2 + 1))) = some r := by first | (rw [hy125];with_reducible exact H) | (have H2_ := (Option.bind_some _ _).symm.trans H;rw [hy125];with_reducible exact H2_) | (have H2_ := (Option.bind_some _ _).symm.trans H;with_reducible exact H2_) | with_reducible exact H | (rw [hy125];exact H) | exact H
                 have Ny125 := Aside0.mk hy125;clear hy125;have H' := Aside0.mk H;clear H;have p122 : 0 ≤ (x11_2 : Int) := of_decide_eq_true (by first | (with_reducible assumption) | assumption);have q122 : x11_2 < (l2.length : Int) := of_decide_eq_true (by first | (with_reducible assumption) | assumption);obtain ⟨ad122,e122,hx122_0,hx122_1,hx122_2⟩ := at_T144 HR2.out x11_2 p122 q122;cases e122;replace hx122_0 := (HB.out.cell (World.block_lt_of_cell? w _ hx122_0)).trans hx122_0;replace hx122_1 := (HB.out.cell (World.block_lt_of_cell? w _ hx122_1)).trans hx122_1;replace hx122_2 := (HB.out.cell (World.block_lt_of_cell? w _ hx122_2)).trans hx122_2;replace p122 := eq_true p122;replace q122 := eq_true q122;(try go_wp2);have n0_ := Aside0.mk (Kd.R_drew HO_7.out);have n1_ := Aside0.mk (Kd.N_drew HO_8.out);have n2_ := Aside0.mk (Kd.R_drew HO_10.out);have n3_ := Aside0.mk (below_drew1 HB.out);clear HO_7;clear HO_8;clear HO_10;clear HB;have HO_7 := n0_;have HO_8 := n1_;have HO_10 := n2_;have HB := n3_;clear n0_ n1_ n2_ n3_;have p123 : 0 ≤ (x11_2 : Int) := of_decide_eq_true (by first | (with_reducible assumption) | assumption);have q123 : x11_2 < (l2.length : Int) := of_decide_eq_true (by first | (with_reducible assumption) | assumption);obtain ⟨ad123,e123,hx123_0,hx123_1,hx123_2⟩ := at_T144 HR2.out x11_2 p123 q123;have hw123_2 := hx123_2;have hw123_1 := hx123_1;have hw123_0 := hx123_0;obtain rfl : ad122 = ad123 := (by injection e123);replace hx123_0 := (HB.out.cell (World.block_lt_of_cell? w _ hx123_0)).trans hx123_0;replace hx123_1 := (HB.out.cell (World.block_lt_of_cell? w _ hx123_1)).trans hx123_1;replace hx123_2 := (HB.out.cell (World.block_lt_of_cell? w _ hx123_2)).trans hx123_2;replace p123 := eq_true p123;replace q123 := eq_true q123;have p124 : 0 ≤ (x11_2 : Int) := of_decide_eq_true (by first | (with_reducible assumption) | assumption);have q124 : x11_2 < (l2.length : Int) := of_decide_eq_true (by first | (with_reducible assumption) | assumption);obtain ⟨ad124,e124,hx124_0,hx124_1,hx124_2⟩ := at_T144 HR2.out x11_2 p124 q124;have hw124_2 := hx124_2;have hw124_1 := hx124_1;have hw124_0 := hx124_0;obtain rfl : ad122 = ad124 := (by injection e124);replace hx124_0 := (HB.out.cell (World.block_lt_of_cell? w _ hx124_0)).trans hx124_0;replace hx124_1 := (HB.out.cell (World.block_lt_of_cell? w _ hx124_1)).trans hx124_1;replace hx124_2 := (HB.out.cell (World.block_lt_of_cell? w _ hx124_2)).trans hx124_2;replace p124 := eq_true p124;replace q124 := eq_true q124;have p29 : 0 ≤ (((rd_T144 l2 x11_2).f1) : Int) := of_decide_eq_true (by first | (with_reducible assumption) | assumption);have q29 : (((rd_T144 l2 x11_2).f1) : Int) < ((x10_2.length : Int) : Int) := of_decide_eq_true (by first | (with_reducible assumption) | assumption);obtain ⟨go29,co29,eo29,gb29,gl29,cl29,HG29⟩ := Kd.R_form HO_10.out (by omega);(first | cases eo29 | (injection eo29 with ea_ en_ ec_;(first | subst ea_ | (injection ea_ with ea_;subst ea_));subst ec_;clear en_));have GB29 := Aside0.mk gb29;have GG29 := Aside0.mk HG29;clear gb29 gl29 HG29;obtain ⟨hx29_0,hf29_0⟩ := Kd.R_celln 0 HO_10.out (((rd_T144 l2 x11_2).f1) : Int) p29 q29;replace p29 := eq_true p29;replace q29 := eq_true q29;have HP31 := Kd.R_putn HO_10.out (((rd_T144 l2 x11_2).f1) : Int) ((rd_T144 l2 x11_2).f2);rw [← Ny125.out] at HP31;have HQ31 := Aside0.mk HP31;clear HP31;refine start_ (n := 13) (S := fun w' => w'.cell? (ad122.add ((x11_2).toNat * 3)) = some (.int .i8 ((rd_T144 l2 x11_2).f0)) ∧ w'.cell? ⟨(ad122.add ((x11_2).toNat * 3)).block,(ad122.add ((x11_2).toNat * 3)).off + 1,none⟩ = some (.int .i8 ((rd_T144 l2 x11_2).f1)) ∧ w'.cell? ⟨(ad122.add ((x11_2).toNat * 3)).block,(ad122.add ((x11_2).toNat * 3)).off + 2,none⟩ = some (.int .i8 ((rd_T144 l2 x11_2).f2)) ∧ w'.cell? (ad122.add ((x11_2).toNat * 3)) = some (.int .i8 ((rd_T144 l2 x11_2).f0)) ∧ w'.cell? ⟨(ad122.add ((x11_2).toNat * 3)).block,(ad122.add ((x11_2).toNat * 3)).off + 1,none⟩ = some (.int .i8 ((rd_T144 l2 x11_2).f1)) ∧ w'.cell? ⟨(ad122.add ((x11_2).toNat * 3)).block,(ad122.add ((x11_2).toNat * 3)).off + 2,none⟩ = some (.int .i8 ((rd_T144 l2 x11_2).f2))) (ds := [12]) #[false,false,false,false,false,false,false,false,false,false,false,false,false] (by kernel_rfl) rfl rfl ⟨((HB.out.cell (World.block_lt_of_cell? w _ hw123_0)).trans hw123_0),((HB.out.cell (World.block_lt_of_cell? w _ hw123_1)).trans hw123_1),((HB.out.cell (World.block_lt_of_cell? w _ hw123_2)).trans hw123_2),((HB.out.cell (World.block_lt_of_cell? w _ hw124_0)).trans hw124_0),((HB.out.cell (World.block_lt_of_cell? w _ hw124_1)).trans hw124_1),((HB.out.cell (World.block_lt_of_cell? w _ hw124_2)).trans hw124_2)⟩ (fun hHeld => ?_);refine with_tabW spec_l06Read.tab13 spec_l06Read.bits13 (fun HT_ HW_ => ?_);generalize wr.drew = w30 at HO_7 HO_8 HO_10 HB GG29 HQ31 hf29_0 hx123_0 hx123_1 hx123_2 hx124_0 hx124_1 hx124_2 hx29_0 hHeld ⊢;refine pure_ (i := 0) (N := some 55) (v := ?_) (a' := ?_) #[true,false,false,false,false,false,false,false,false,false,false,false,false] rfl rfl (any_of HT_.out (by kernel_rfl)) (fun _ _ _ h => h) (Or.inl ⟨by rfl,?_⟩) ?_ ?_;rotate_left
                 ·intro w';go_simp;with_reducible rfl
                 rotate_left
                 ·simp only [Act.put,List.setIfInBounds_toArray,List.set_cons_zero,List.set_cons_succ,i64_w,i32_w];rfl
                 refine pure_ (i := 1) (N := some 56) (v := ?_) (a' := ?_) #[true,true,false,false,false,false,false,false,false,false,false,false,false] rfl rfl (any_of HT_.out (by kernel_rfl)) (fun _ _ _ h => h) (Or.inl ⟨by rfl,?_⟩) ?_ ?_;rotate_left
                 ·intro w';go_simp;with_reducible rfl
                 rotate_left
                 ·simp only [Act.put,List.setIfInBounds_toArray,List.set_cons_zero,List.set_cons_succ,i64_w,i32_w];rfl
                 refine pure_ (i := 2) (N := some 57) (v := ?_) (a' := ?_) #[true,true,true,false,false,false,false,false,false,false,false,false,false] rfl rfl (any_of HT_.out (by kernel_rfl)) (fun _ _ _ h => h) (Or.inl ⟨by rfl,?_⟩) ?_ ?_;rotate_left
                 ·intro w';go_simp;with_reducible rfl
                 rotate_left
                 ·simp only [Act.put,List.setIfInBounds_toArray,List.set_cons_zero,List.set_cons_succ,i64_w,i32_w];rfl
                 refine pure_ (i := 3) (N := some 58) (v := ?_) (a' := ?_) #[true,true,true,true,false,false,false,false,false,false,false,false,false] rfl rfl (any_of HT_.out (by kernel_rfl)) (fun _ _ _ h => h) (Or.inl ⟨by rfl,?_⟩) ?_ ?_;rotate_left
                 ·intro w';go_simp;with_reducible rfl
                 rotate_left
                 ·simp only [Act.put,List.setIfInBounds_toArray,List.set_cons_zero,List.set_cons_succ,i64_w,i32_w];rfl
                 refine pure_ (i := 4) (N := some 59) (v := ?_) (a' := ?_) #[true,true,true,true,true,false,false,false,false,false,false,false,false] rfl rfl (any_of HT_.out (by kernel_rfl)) (fun _ _ _ h => h) (Or.inl ⟨by rfl,?_⟩) ?_ ?_;rotate_left
                 ·intro w';go_simp;with_reducible rfl
                 rotate_left
                 ·simp only [Act.put,List.setIfInBounds_toArray,List.set_cons_zero,List.set_cons_succ,i64_w,i32_w];rfl
                 refine pure_ (i := 6) (N := some 61) (v := ?_) (a' := ?_) #[true,true,true,true,true,false,true,false,false,false,false,false,false] rfl rfl (any_of HT_.out (by kernel_rfl)) (fun _ _ _ h => h) (Or.inl ⟨by rfl,?_⟩) ?_ ?_;rotate_left
                 ·intro w';go_simp;with_reducible rfl
                 rotate_left
                 ·simp only [Act.put,List.setIfInBounds_toArray,List.set_cons_zero,List.set_cons_succ,i64_w,i32_w];rfl
                 refine pure_ (i := 7) (N := some 62) (v := ?_) (a' := ?_) #[true,true,true,true,true,false,true,true,false,false,false,false,false] rfl rfl (any_of HT_.out (by kernel_rfl)) (fun _ _ _ h => h) (Or.inl ⟨by rfl,?_⟩) ?_ ?_;rotate_left
                 ·intro w';go_simp;with_reducible rfl
                 rotate_left
                 ·simp only [Act.put,List.setIfInBounds_toArray,List.set_cons_zero,List.set_cons_succ,i64_w,i32_w];rfl
                 refine pure_ (i := 8) (N := some 63) (v := ?_) (a' := ?_) #[true,true,true,true,true,false,true,true,true,false,false,false,false] rfl rfl (any_of HT_.out (by kernel_rfl)) (fun _ _ _ h => h) (Or.inl ⟨by rfl,?_⟩) ?_ ?_;rotate_left
                 ·intro w';go_simp;with_reducible rfl
                 rotate_left
                 ·simp only [Act.put,List.setIfInBounds_toArray,List.set_cons_zero,List.set_cons_succ,i64_w,i32_w];rfl
                 refine pure_ (i := 9) (N := some 64) (v := ?_) (a' := ?_) #[true,true,true,true,true,false,true,true,true,true,false,false,false] rfl rfl (any_of HT_.out (by kernel_rfl)) (fun _ _ _ h => h) (Or.inl ⟨by rfl,?_⟩) ?_ ?_;rotate_left
                 ·intro w';go_simp;with_reducible rfl
                 rotate_left
                 ·simp only [Act.put,List.setIfInBounds_toArray,List.set_cons_zero,List.set_cons_succ,i64_w,i32_w];rfl
                 refine take_ (i := 5) (N := some 60) (v := ?_) (a' := ?_) #[true,true,true,true,true,true,true,true,true,true,false,false,false] rfl rfl (take_ofW HT_.out HW_.out (by kernel_rfl)) (fun _ _ _ h => h) (Or.inl ⟨by rfl,?_⟩) hHeld ?_ ?_;rotate_left
                 ·rintro w' ⟨s0,s1,s2,s3,s4,s5⟩
                  go_simp;with_reducible rfl
                 rotate_left
                 ·simp only [Act.put,List.setIfInBounds_toArray,List.set_cons_zero,List.set_cons_succ,i64_w,i32_w];rfl
                 refine take_ (i := 10) (N := some 65) (v := ?_) (a' := ?_) #[true,true,true,true,true,true,true,true,true,true,true,false,false] rfl rfl (take_ofW HT_.out HW_.out (by kernel_rfl)) (fun _ _ _ h => h) (Or.inl ⟨by rfl,?_⟩) hHeld ?_ ?_;rotate_left
                 ·rintro w' ⟨s0,s1,s2,s3,s4,s5⟩
                  go_simp;with_reducible rfl
                 rotate_left
                 ·simp only [Act.put,List.setIfInBounds_toArray,List.set_cons_zero,List.set_cons_succ,i64_w,i32_w];rfl
                 refine pure_ (i := 11) (N := some 66) (v := ?_) (a' := ?_) #[true,true,true,true,true,true,true,true,true,true,true,true,false] rfl rfl (any_of HT_.out (by kernel_rfl)) (fun _ _ _ h => h) (Or.inl ⟨by rfl,?_⟩) ?_ ?_;rotate_left
                 ·intro w';go_simp;with_reducible rfl
                 rotate_left
                 ·simp only [Act.put,List.setIfInBounds_toArray,List.set_cons_zero,List.set_cons_succ,i64_w,i32_w];rfl
                 refine last_ (i := 12) (N := none) #[true,true,true,true,true,true,true,true,true,true,true,true,true] rfl rfl (one_of HT_.out (by kernel_rfl)) (by decide) (fun K hK => ?_);refine skip_ (w1 := ?_) (by rfl) rfl ?_ ?_;rotate_left
                 ·go_simp;rfl
                 refine hK.out _ _ ?_;clear hK K;refine done_ (done_of HT_.out (by kernel_rfl)) ?_;(try go_wp2)
                 go_roundg k2
                 case measure => have := HK1.out;have := HK2.out;omega
                 case rel => exact ⟨(y125),(wrap64 (x11_2 + 1)),(by first | rfl | (simp only [IntKind.wrap_i64,wrap64];done) | (simp;done) | (simp [*];done)),H',⟨by have := HK1.out;have := HK2.out;omega⟩,⟨by (with_reducible repeat (first | apply Kd.R_alloc | apply Kd.R_drewN | apply Kd.R_drew));exact Kd.R_mono (Kd.R_far (p := ⟨go29,(((rd_T144 l2 x11_2).f1) : Int).toNat,none⟩) (Kd.R_types HO_7.out (by first | exact GG29.out | exact Exists.choose_spec (Kd.R_typed HO_10.out _ rfl)) (by decide)) (fun _ hk => hk.2) (.int .i8 ((rd_T144 l2 x11_2).f2))) (fun _ hk => hk.1)⟩,⟨by (with_reducible repeat (first | apply Kd.N_alloc | apply Kd.N_drewN | apply Kd.N_drew));exact Kd.N_mono (Kd.N_far (p := ⟨go29,(((rd_T144 l2 x11_2).f1) : Int).toNat,none⟩) (Kd.N_mono HO_8.out (fun k_ hk => (⟨hk,fun e_ => hk.2.2 (by rw [e_];rfl)⟩ : _ ∧ k_ ≠ go29))) (fun _ hk => hk.2) (.int .i8 ((rd_T144 l2 x11_2).f2))) (fun _ hk => ⟨hk.1.1,⟨hk.1.2.1,hk.1.2.2⟩⟩)⟩,⟨by (with_reducible repeat (first | apply Kd.R_alloc | apply Kd.R_drewN | apply Kd.R_drew));exact HQ31.out⟩,⟨by repeat (first | (with_reducible first | exact HB.out | apply below_alloc | apply pw_below_drewN | apply below_drew1 | refine below_set ?_ GB29.out) | exact HB.out)⟩⟩
                ·rw [if_neg c28] at H;exact absurd H (by simp)
               ·rw [if_neg c27] at H;exact absurd H (by simp)
              ·rw [if_neg c26] at H;have c26b0 : ((wrap64 ((rd_T144 l2 x11_2).f0)) == x9_1) = false := beq_eq_false_iff_ne.mpr c26;have c26b1 : ((wrap64 ((rd_T144 l2 x11_2).f0)) != x9_1) = true := bne_iff_ne.mpr c26;have H' := Aside0.mk H;clear H;have p122 : 0 ≤ (x11_2 : Int) := of_decide_eq_true (by first | (with_reducible assumption) | assumption);have q122 : x11_2 < (l2.length : Int) := of_decide_eq_true (by first | (with_reducible assumption) | assumption);obtain ⟨ad122,e122,hx122_0,hx122_1,hx122_2⟩ := at_T144 HR2.out x11_2 p122 q122;cases e122;replace hx122_0 := (HB.out.cell (World.block_lt_of_cell? w _ hx122_0)).trans hx122_0;replace hx122_1 := (HB.out.cell (World.block_lt_of_cell? w _ hx122_1)).trans hx122_1;replace hx122_2 := (HB.out.cell (World.block_lt_of_cell? w _ hx122_2)).trans hx122_2;replace p122 := eq_true p122;replace q122 := eq_true q122
               go_wp2
               go_roundg k2
               case measure => have := HK1.out;have := HK2.out;omega
               case rel => exact ⟨(x10_2),(wrap64 (x11_2 + 1)),(by first | rfl | (simp only [IntKind.wrap_i64,wrap64];done) | (simp;done) | (simp [*];done)),H',⟨by have := HK1.out;have := HK2.out;omega⟩,⟨by (with_reducible repeat (first | apply Kd.R_alloc | apply Kd.R_drewN | apply Kd.R_drew));exact HO_7.out⟩,⟨by (with_reducible repeat (first | apply Kd.N_alloc | apply Kd.N_drewN | apply Kd.N_drew));exact HO_8.out⟩,⟨by (with_reducible repeat (first | apply Kd.R_alloc | apply Kd.R_drewN | apply Kd.R_drew));exact HO_10.out⟩,⟨by repeat (first | (with_reducible first | exact HB.out | apply below_alloc | apply pw_below_drewN | apply below_drew1) | exact HB.out)⟩⟩
             ·rw [if_neg c25] at H;exact absurd H (by simp)
            ·rw [if_neg c24] at H;have c24b0 : decide (x11_2 < (l2.length : Int)) = false := decide_eq_false c24;clear c24
             by_cases c32 : x8_1.length < 5864062014805
             ·rw [if_pos c32] at H;have LMc32 := Aside0.mk c32;clear c32;obtain ⟨y126,hy126⟩ : ∃ y_ : List (List Int),y_ = (x8_1 ++ [x10_2]) := ⟨_,rfl⟩
              replace H : (spec_l06Read.l0 k2 l2 t101 y126 (wrap64 (x9_1 + 1))) = some r := by first | (rw [hy126];with_reducible exact H) | (have H2_ := (Option.bind_some _ _).symm.trans H;rw [hy126];with_reducible exact H2_) | (have H2_ := (Option.bind_some _ _).symm.trans H;with_reducible exact H2_) | with_reducible exact H | (rw [hy126];exact H) | exact H
              have Ny126 := Aside0.mk hy126;clear hy126;have H' := Aside0.mk H;clear H;obtain ⟨Ao34,co34,eo34⟩ := Kd.R_slice HO_10.out;subst eo34
              go_wp2_with (first | ((with_reducible refine gate_builtin (b := .append) (xs := #[.tmp 67,.tmp 69]) rfl ?_);at_builtin;refine Kd.N_append (Kd.slice 104 (Kd.int .i8)) (w0 := w) w.heap.size rfl (.tmp 67) (.tmp 69) 33 31 (.slice none 0 0) 24 rfl Try.underlying33 info31 rfl (by decide) (by omega) (.slice (some ad118) x8_1.length co22) x8_1 x10_2 [.slice Ao34 x10_2.length co34] (fun k_ => (w.heap.size ≤ k_) ∧ some k_ ≠ (.slice (some ad116) t101.length co19 : Value).ownBlock) (fun k_ => ((fun k_ => (w.heap.size ≤ k_) ∧ some k_ ≠ (.slice (some ad116) t101.length co19 : Value).ownBlock)) k_ ∧ some k_ ≠ (.slice (some ad118) x8_1.length co22 : Value).ownBlock) rfl rfl ?aP (fun _ hk => hk) ?aF ?aO ?aB ?aS ?aL ?_;(case aP => exact (Kd.FK_slice_mk (Kd.R_reads' (Kd.R_mono (ok' := (fun k_ => ((fun k_ => (w.heap.size ≤ k_) ∧ some k_ ≠ (.slice (some ad116) t101.length co19 : Value).ownBlock)) k_ ∧ some k_ ≠ (.slice (some ad118) x8_1.length co22 : Value).ownBlock)) (Kd.R_apart' (Kd.R_apart' (HO_10.out) (Kd.R_typed HO_7.out) (by decide)) (Kd.N_typed HO_8.out) (by decide)) (fun k_ hk => ⟨⟨hk.1.1,hk.1.2⟩,hk.2⟩))).2.1 (Kd.R_F (Kd.R_mono (ok' := (fun k_ => ((fun k_ => (w.heap.size ≤ k_) ∧ some k_ ≠ (.slice (some ad116) t101.length co19 : Value).ownBlock)) k_ ∧ some k_ ≠ (.slice (some ad118) x8_1.length co22 : Value).ownBlock)) (Kd.R_apart' (Kd.R_apart' (HO_10.out) (Kd.R_typed HO_7.out) (by decide)) (Kd.N_typed HO_8.out) (by decide)) (fun k_ hk => ⟨⟨hk.1.1,hk.1.2⟩,hk.2⟩)))));(case aB => exact (by repeat (first | (with_reducible first | exact HB.out | apply below_alloc | apply pw_below_drewN | apply below_drew1) | exact HB.out)));(case aF => exact (fun k_ hk => ⟨(Nat.le_trans (below_size (by repeat (first | (with_reducible first | exact HB.out | apply below_alloc | apply pw_below_drewN | apply below_drew1) | exact HB.out))) hk),Kd.fresh' (Kd.R_lt (by (with_reducible repeat (first | apply Kd.R_alloc | apply Kd.R_drewN | apply Kd.R_drew));exact HO_7.out)) k_ hk⟩));(case aO => exact (by (with_reducible repeat (first | apply Kd.N_alloc | apply Kd.N_drewN | apply Kd.N_drew));exact Kd.N_mono HO_8.out (fun _ hk => ⟨hk.1,hk.2.1⟩)));(case aS => exact (below_size (by repeat (first | (with_reducible first | exact HB.out | apply below_alloc | apply pw_below_drewN | apply below_drew1) | exact HB.out))));(case aL => have := LMc32.out;omega);intro v127 w33 ho hb hg hat;rw [← Ny126.out] at ho;have n0_ := Aside0.mk (Kd.R_over' (by (with_reducible repeat (first | apply Kd.R_alloc | apply Kd.R_drewN | apply Kd.R_drew));exact HO_7.out) (Kd.N_typed (by (with_reducible repeat (first | apply Kd.N_alloc | apply Kd.N_drewN | apply Kd.N_drew));exact HO_8.out)) (by decide) hg);have n1_ := Aside0.mk (hb);have n2_ := Aside0.mk (ho);clear HO_7;clear HB;clear HO_8;clear HO_10;have HO_7 := n0_;have HB := n1_;have HO128 := n2_;clear n0_ n1_ n2_;clear ho hb hg hat))
              go_roundg k2
              case measure => have := HK1.out;have := HK2.out;omega
              case rel => exact ⟨(y126),(wrap64 (x9_1 + 1)),(by first | rfl | (simp only [IntKind.wrap_i64,wrap64];done) | (simp;done) | (simp [*];done)),H',⟨by have := HK1.out;have := HK2.out;omega⟩,⟨by (with_reducible repeat (first | apply Kd.R_alloc | apply Kd.R_drewN | apply Kd.R_drew));exact HO_7.out⟩,⟨by (with_reducible repeat (first | apply Kd.N_alloc | apply Kd.N_drewN | apply Kd.N_drew));exact HO128.out⟩,⟨by repeat (first | (with_reducible first | exact HB.out | apply below_alloc | apply pw_below_drewN | apply below_drew1) | exact HB.out)⟩⟩
             ·rw [if_neg c32] at H;exact absurd H (by simp)
         ·rw [if_neg c18] at H;exact absurd H (by simp)
        ·rw [if_neg c17] at H;exact absurd H (by simp)
       ·rw [if_neg c16] at H;exact absurd H (by simp)
      ·rw [if_neg c15] at H;have c15b0 : decide (0 ≤ ((rd_T106 t101 x9_1).f0)) = false := decide_eq_false c15;clear c15
       by_cases c35 : x8_1.length < 5864062014805
       ·rw [if_pos c35] at H;have LMc35 := Aside0.mk c35;clear c35;obtain ⟨y129,hy129⟩ : ∃ y_ : List (List Int),y_ = (x8_1 ++ [y113]) := ⟨_,rfl⟩
        replace H : (spec_l06Read.l0 k1 l2 t101 y129 (wrap64 (x9_1 + 1))) = some r := by first | (rw [hy129];with_reducible exact H) | (have H2_ := (Option.bind_some _ _).symm.trans H;rw [hy129];with_reducible exact H2_) | (have H2_ := (Option.bind_some _ _).symm.trans H;with_reducible exact H2_) | with_reducible exact H | (rw [hy129];exact H) | exact H
        have Ny129 := Aside0.mk hy129;clear hy129;have H' := Aside0.mk H;clear H;obtain ⟨Ao36,co36,eo36⟩ := Kd.R_slice HO_7.out;subst eo36
        go_wp2_with (first | ((with_reducible refine gate_dst (N := 24) rfl ?_);refine Kd.R_lit (Kd.int .i8) _ 104 ?hg (N := 24) ?hd (xs := ([] : List Int)) (inner := []) (ok := fun _ => True) (okp := fun _ => True) ?hr ?hp (fun _ hk => hk) trivial (Below.refl _ _) (Nat.le_refl _) (by simp) ?_;(case hd => rfl);(case hg => rfl);(case hr => first | (go_simp;done) | (go_simp;rfl));(case hp => exact (Reps.none _ _));intro v114 w37 ho38 hb hg_ hnew_;clear hg_ hnew_;(first | rw [← Ny113.out] at ho38 | (simp only [Int.reduceToNat] at ho38;rw [← Ny113.out] at ho38));have n0_ := Aside0.mk (Kd.R_below (by (with_reducible repeat (first | apply Kd.R_alloc | apply Kd.R_drewN | apply Kd.R_drew));exact HO_7.out) hb);have n1_ := Aside0.mk (Kd.N_elder' (by (with_reducible repeat (first | apply Kd.N_alloc | apply Kd.N_drewN | apply Kd.N_drew));exact HO_8.out) (Kd.R_base ho38) hb);have n2_ := Aside0.mk (Kd.R_lower (Kd.R_newM (M := fun k_ => (w.heap.size ≤ k_)) ho38 (below_size (by repeat (first | (with_reducible first | exact HB.out | apply below_alloc | apply pw_below_drewN | apply below_drew1) | exact HB.out))) (fun k_ h_ => h_)) (below_size (by repeat (first | (with_reducible first | exact HB.out | apply below_alloc | apply pw_below_drewN | apply below_drew1) | exact HB.out))));have n3_ := Aside0.mk (below_step (by repeat (first | (with_reducible first | exact HB.out | apply below_alloc | apply pw_below_drewN | apply below_drew1) | exact HB.out)) hb);clear HO_7;clear HO_8;clear HB;have HO_7 := n0_;have HO_8 := n1_;have HO115 := n2_;have HB := n3_;clear n0_ n1_ n2_ n3_;clear hb ho38;have p116 : 0 ≤ (x9_1 : Int) := of_decide_eq_true (by first | (with_reducible assumption) | assumption);have q116 : x9_1 < (t101.length : Int) := of_decide_eq_true (by first | (with_reducible assumption) | assumption);obtain ⟨ad116,e116,hx116_0,hx116_1,hx116_2,hx116_3⟩ := at_T106 (Kd.R_reads' HO_7.out).2.2 x9_1 p116 q116;cases e116;replace p116 := eq_true p116;replace q116 := eq_true q116;obtain ⟨Ao40,co40,eo40⟩ := Kd.R_slice HO115.out;subst eo40) | ((with_reducible refine gate_builtin (b := .append) (xs := #[.tmp 67,.tmp 69]) rfl ?_);at_builtin;refine Kd.N_append (Kd.slice 104 (Kd.int .i8)) (w0 := w) w.heap.size rfl (.tmp 67) (.tmp 69) 33 31 (.slice none 0 0) 24 rfl Try.underlying33 info31 rfl (by decide) (by omega) u8 x8_1 y113 [.slice Ao40 y113.length co40] (fun k_ => (w.heap.size ≤ k_) ∧ some k_ ≠ (.slice (some ad116) t101.length co36 : Value).ownBlock) (fun k_ => ((fun k_ => (w.heap.size ≤ k_) ∧ some k_ ≠ (.slice (some ad116) t101.length co36 : Value).ownBlock)) k_ ∧ some k_ ≠ (u8 : Value).ownBlock) rfl rfl ?aP (fun _ hk => hk) ?aF ?aO ?aB ?aS ?aL ?_;(case aP => exact (Kd.FK_slice_mk (Kd.R_reads' (Kd.R_mono (ok' := (fun k_ => ((fun k_ => (w.heap.size ≤ k_) ∧ some k_ ≠ (.slice (some ad116) t101.length co36 : Value).ownBlock)) k_ ∧ some k_ ≠ (u8 : Value).ownBlock)) (Kd.R_apart' (Kd.R_apart' (HO115.out) (Kd.R_typed HO_7.out) (by decide)) (Kd.N_typed HO_8.out) (by decide)) (fun k_ hk => ⟨⟨hk.1.1.1,hk.1.2⟩,hk.2⟩))).2.1 (Kd.R_F (Kd.R_mono (ok' := (fun k_ => ((fun k_ => (w.heap.size ≤ k_) ∧ some k_ ≠ (.slice (some ad116) t101.length co36 : Value).ownBlock)) k_ ∧ some k_ ≠ (u8 : Value).ownBlock)) (Kd.R_apart' (Kd.R_apart' (HO115.out) (Kd.R_typed HO_7.out) (by decide)) (Kd.N_typed HO_8.out) (by decide)) (fun k_ hk => ⟨⟨hk.1.1.1,hk.1.2⟩,hk.2⟩)))));(case aB => exact (by repeat (first | (with_reducible first | exact HB.out | apply below_alloc | apply pw_below_drewN | apply below_drew1) | exact HB.out)));(case aF => exact (fun k_ hk => ⟨(Nat.le_trans (below_size (by repeat (first | (with_reducible first | exact HB.out | apply below_alloc | apply pw_below_drewN | apply below_drew1) | exact HB.out))) hk),Kd.fresh' (Kd.R_lt (by (with_reducible repeat (first | apply Kd.R_alloc | apply Kd.R_drewN | apply Kd.R_drew));exact HO_7.out)) k_ hk⟩));(case aO => exact (by (with_reducible repeat (first | apply Kd.N_alloc | apply Kd.N_drewN | apply Kd.N_drew));exact Kd.N_mono HO_8.out (fun _ hk => ⟨hk.1.1,hk.1.2⟩)));(case aS => exact (below_size (by repeat (first | (with_reducible first | exact HB.out | apply below_alloc | apply pw_below_drewN | apply below_drew1) | exact HB.out))));(case aL => have := LMc35.out;omega);intro v130 w39 ho hb hg hat;rw [← Ny129.out] at ho;have n0_ := Aside0.mk (Kd.R_over' (by (with_reducible repeat (first | apply Kd.R_alloc | apply Kd.R_drewN | apply Kd.R_drew));exact HO_7.out) (Kd.N_typed (by (with_reducible repeat (first | apply Kd.N_alloc | apply Kd.N_drewN | apply Kd.N_drew));exact HO_8.out)) (by decide) hg);have n1_ := Aside0.mk (hb);have n2_ := Aside0.mk (ho);clear HO_7;clear HB;clear HO_8;clear HO115;have HO_7 := n0_;have HB := n1_;have HO131 := n2_;clear n0_ n1_ n2_;clear ho hb hg hat))
        go_roundg k1
        case measure => have := HK1.out;omega
        case rel => exact ⟨(y129),(wrap64 (x9_1 + 1)),(by first | rfl | (simp only [IntKind.wrap_i64,wrap64];done) | (simp;done) | (simp [*];done)),H',⟨by have := HK1.out;omega⟩,⟨by (with_reducible repeat (first | apply Kd.R_alloc | apply Kd.R_drewN | apply Kd.R_drew));exact HO_7.out⟩,⟨by (with_reducible repeat (first | apply Kd.N_alloc | apply Kd.N_drewN | apply Kd.N_drew));exact HO131.out⟩,⟨by repeat (first | (with_reducible first | exact HB.out | apply below_alloc | apply pw_below_drewN | apply below_drew1) | exact HB.out)⟩⟩
       ·rw [if_neg c35] at H;exact absurd H (by simp)
     ·rw [if_neg c14] at H;exact absurd H (by simp)
    ·rw [if_neg c13] at H;have c13b0 : decide (x9_1 < (t101.length : Int)) = false := decide_eq_false c13;clear c13;obtain rfl := Option.some.inj H;obtain ⟨Ao41,co41,eo41⟩ := Kd.R_slice HO_7.out;subst eo41
     go_wp2
     go_ret
     exact ⟨_,by first | rfl | (simp [errW_none,errW_some,IntKind.wrap_i64,wrap64];done) | (simp [errW_none,errW_some] <;> rfl) | (simp [*,errW_none,errW_some] <;> rfl),by (with_reducible repeat (first | apply Kd.N_alloc | apply Kd.N_drewN | apply Kd.N_drew));exact Kd.N_mono HO_8.out (fun _ hk => hk.1),by repeat (first | (with_reducible first | exact HB.out | apply below_alloc | apply pw_below_drewN | apply below_drew1) | exact HB.out)⟩
 ·rw [if_neg c5] at H;exact absurd H (by simp)
end Go.Proofs.Ytheenidapjkboaa.G
end

section
namespace Go.Proofs.Ytheenidapjkboaa.G
open Go.RowKit Go.Proofs.YtheenidapjkboaaW.PrintWords Go.Proofs.YtheenidapjkboaaW.PrintLast Go.Proofs.YtheenidapjkboaaW.PrintMore
attribute [local go_sem] max2_int min2_int max_two min_two max_three min_three max_four min_four
set_option linter.unusedVariables false
set_option linter.unusedSimpArgs false
def spec_ReadByAll.f (k : Nat) (l0 : List (S109)) (l1 : List Int) (l2 : List (S144)) : Option ((List (List Int)) × Int) := (spec_l06Given.f k l0 l1 l2).bind fun t101 => (if t101 = 0 then ((spec_l06Read.f k l0 l1 l2).bind fun t102 => (some (t102,0))) else (some ((([] : List (List Int))),t101)))
set_option maxHeartbeats 8000000 in
set_option maxRecDepth 100000 in
theorem spec_ReadByAll.calls (k : Nat) (A0 : Option Addr) (c0 : Nat) (l0 : List (S109)) (A1 : Option Addr) (c1 : Nat) (l1 : List Int) (A2 : Option Addr) (c2 : Nat) (l2 : List (S144)) (r1 : List (List Int)) (r2 : Int) (w : World) (hr0 : Kd.C k109 w A0 l0.length l0) (hc0 : l0.length ≤ c0) (hr1 : Kd.C (Kd.int .i8) w A1 l1.length l1) (hc1 : l1.length ≤ c1) (hr2 : Kd.C k144 w A2 l2.length l2) (hc2 : l2.length ≤ c2) (h : spec_ReadByAll.f k l0 l1 l2 = some (r1,r2)) :
  Calls Try.prog 42 #[.slice A0 l0.length c0,.slice A1 l1.length c1,.slice A2 l2.length c2] w fun e w' => ∃ v0_ : Value,e = .returned (.tuple #[v0_,.int .i64 r2]) ∧ Kd.N (Kd.slice 104 (Kd.int .i8)) 31 w' w.heap.size (fun k_ => (w.heap.size ≤ k_)) v0_ r1 ∧ Below w.heap.size w w' := by
 have HR0 := Aside0.mk hr0;have HC0 := Aside0.mk hc0;clear hr0 hc0;have HR1 := Aside0.mk hr1;have HC1 := Aside0.mk hc1;clear hr1 hc1;have HR2 := Aside0.mk hr2;have HC2 := Aside0.mk hc2;clear hr2 hc2;have HB := Aside0.mk (Below.refl w.heap.size w);have H : ((spec_l06Given.f k l0 l1 l2).bind fun t101 => (if t101 = 0 then ((spec_l06Read.f k l0 l1 l2).bind fun t102 => (some (t102,0))) else (some ((([] : List (List Int))),t101)))) = some (r1,r2) := h;clear h;replace H := Option.bind_eq_some_iff.mp H;obtain ⟨t101,A40,H⟩ := H;replace H : (if t101 = 0 then ((spec_l06Read.f k l0 l1 l2).bind fun t102 => (some (t102,0))) else (some ((([] : List (List Int))),t101))) = some (r1,r2) := H;have A4 := Aside0.mk A40;clear A40
 by_cases c5 : t101 = 0
 ·rw [if_pos c5] at H;have c5b0 : (t101 == 0) = true := beq_iff_eq.mpr c5;have c5b1 : (t101 != 0) = false := bne_eq_false_iff_eq.mpr c5;clear c5;replace H := Option.bind_eq_some_iff.mp H;obtain ⟨t102,A60,H⟩ := H;replace H : (some (t102,0)) = some (r1,r2) := H;have A6 := Aside0.mk A60;clear A60;simp only [Option.some.injEq,Prod.mk.injEq] at H;obtain ⟨rfl,rfl⟩ := H
  go_enter Try.func42,Try.ntmps42
  go_wp2_with (first | ((with_reducible refine gate_callee (f := 97) rfl ?_);refine goesL_ (some 12) rfl rfl Try.func97 (by kernel_rfl) rfl #[.slice A0 l0.length c0,.slice A1 l1.length c1,.slice A2 l2.length c2] rfl (by (try simp only [List.map_toArray,List.map_cons,List.map_nil]);first | done | rfl | (simp only [List.length_drop,List.length_take];rfl)) ?_;(with_reducible refine (spec_l06Given.calls k _ _ l0 _ _ l1 _ _ l2 t101 _ ?side1 ?side2 ?side3 ?side4 ?side5 ?side6 A4.out).mono ?_);(case side1 => repeat (first | exact HR0.out | (with_reducible refine Kd.C_alloc ?_ _) | (with_reducible refine Kd.C_drewN ?_ _) | (with_reducible refine Kd.C_drew ?_)));(case side2 => exact HC0.out);(case side3 => repeat (first | exact HR1.out | (with_reducible refine Kd.C_alloc ?_ _) | (with_reducible refine Kd.C_drewN ?_ _) | (with_reducible refine Kd.C_drew ?_)));(case side4 => exact HC1.out);(case side5 => repeat (first | exact HR2.out | (with_reducible refine Kd.C_alloc ?_ _) | (with_reducible refine Kd.C_drewN ?_ _) | (with_reducible refine Kd.C_drew ?_)));(case side6 => exact HC2.out);rintro e w7 ⟨rfl,hb⟩;refine ⟨_,rfl,?_⟩;have n0_ := Aside0.mk (below_step (by repeat (first | (with_reducible first | exact HB.out | apply below_alloc | apply pw_below_drewN | apply below_drew1) | exact HB.out)) hb);clear HB;have HB := n0_;clear n0_;(try clear hb);(try clear hb2);(try clear hk);(try clear hi)) | ((with_reducible refine gate_callee (f := 98) rfl ?_);refine goesL_ (some 20) rfl rfl Try.func98 (by kernel_rfl) rfl #[.slice A0 l0.length c0,.slice A1 l1.length c1,.slice A2 l2.length c2] rfl (by (try simp only [List.map_toArray,List.map_cons,List.map_nil]);first | done | rfl | (simp only [List.length_drop,List.length_take];rfl)) ?_;(with_reducible refine (spec_l06Read.calls k _ _ l0 _ _ l1 _ _ l2 t102 _ ?side1 ?side2 ?side3 ?side4 ?side5 ?side6 A6.out).mono ?_);(case side1 => repeat (first | exact (Kd.C_below HR0.out HB.out) | (with_reducible refine Kd.C_alloc ?_ _) | (with_reducible refine Kd.C_drewN ?_ _) | (with_reducible refine Kd.C_drew ?_)));(case side2 => exact HC0.out);(case side3 => repeat (first | exact (Kd.C_below HR1.out HB.out) | (with_reducible refine Kd.C_alloc ?_ _) | (with_reducible refine Kd.C_drewN ?_ _) | (with_reducible refine Kd.C_drew ?_)));(case side4 => exact HC1.out);(case side5 => repeat (first | exact (Kd.C_below HR2.out HB.out) | (with_reducible refine Kd.C_alloc ?_ _) | (with_reducible refine Kd.C_drewN ?_ _) | (with_reducible refine Kd.C_drew ?_)));(case side6 => exact HC2.out);rintro e w8 ⟨v103,rfl,ho0,hb⟩;refine ⟨_,rfl,?_⟩;have n0_ := Aside0.mk (Kd.N_lower (Kd.N_mono (ok' := fun k_ => (w.heap.size ≤ k_)) ho0 (fun k_ hk_ => (Nat.le_trans (below_size (by repeat (first | (with_reducible first | exact HB.out | apply below_alloc | apply pw_below_drewN | apply below_drew1) | exact HB.out))) hk_))) (below_size (by repeat (first | (with_reducible first | exact HB.out | apply below_alloc | apply pw_below_drewN | apply below_drew1) | exact HB.out))));have n1_ := Aside0.mk (below_step (by repeat (first | (with_reducible first | exact HB.out | apply below_alloc | apply pw_below_drewN | apply below_drew1) | exact HB.out)) hb);clear HB;have HO104 := n0_;have HB := n1_;clear n0_ n1_;(try clear hb);(try clear hb2);(try clear hk);(try clear hi);(try clear ho0)))
  go_ret2
  exact ⟨_,by first | rfl | (simp [errW_none,errW_some,IntKind.wrap_i64,wrap64];done) | (simp [errW_none,errW_some] <;> rfl) | (simp [*,errW_none,errW_some] <;> rfl),by (with_reducible repeat (first | apply Kd.N_alloc | apply Kd.N_drewN | apply Kd.N_drew));exact HO104.out,by repeat (first | (with_reducible first | exact HB.out | apply below_alloc | apply pw_below_drewN | apply below_drew1) | exact HB.out)⟩
 ·rw [if_neg c5] at H;have c5b0 : (t101 == 0) = false := beq_eq_false_iff_ne.mpr c5;have c5b1 : (t101 != 0) = true := bne_iff_ne.mpr c5;obtain ⟨y105,hy105⟩ : ∃ y_ : List (List Int),y_ = (([] : List (List Int))) := ⟨_,rfl⟩
  replace H : (some (y105,t101)) = some (r1,r2) := by first | (rw [hy105];with_reducible exact H) | (have H2_ := (Option.bind_some _ _).symm.trans H;rw [hy105];with_reducible exact H2_) | (have H2_ := (Option.bind_some _ _).symm.trans H;with_reducible exact H2_) | with_reducible exact H | (rw [hy105];exact H) | exact H
  have Ny105 := Aside0.mk hy105;clear hy105;simp only [Option.some.injEq,Prod.mk.injEq] at H;obtain ⟨rfl,rfl⟩ := H
  go_enter Try.func42,Try.ntmps42
  go_wp2_with (first | ((with_reducible refine gate_callee (f := 97) rfl ?_);refine goesL_ (some 12) rfl rfl Try.func97 (by kernel_rfl) rfl #[.slice A0 l0.length c0,.slice A1 l1.length c1,.slice A2 l2.length c2] rfl (by (try simp only [List.map_toArray,List.map_cons,List.map_nil]);first | done | rfl | (simp only [List.length_drop,List.length_take];rfl)) ?_;(with_reducible refine (spec_l06Given.calls k _ _ l0 _ _ l1 _ _ l2 t101 _ ?side1 ?side2 ?side3 ?side4 ?side5 ?side6 A4.out).mono ?_);(case side1 => repeat (first | exact HR0.out | (with_reducible refine Kd.C_alloc ?_ _) | (with_reducible refine Kd.C_drewN ?_ _) | (with_reducible refine Kd.C_drew ?_)));(case side2 => exact HC0.out);(case side3 => repeat (first | exact HR1.out | (with_reducible refine Kd.C_alloc ?_ _) | (with_reducible refine Kd.C_drewN ?_ _) | (with_reducible refine Kd.C_drew ?_)));(case side4 => exact HC1.out);(case side5 => repeat (first | exact HR2.out | (with_reducible refine Kd.C_alloc ?_ _) | (with_reducible refine Kd.C_drewN ?_ _) | (with_reducible refine Kd.C_drew ?_)));(case side6 => exact HC2.out);rintro e w9 ⟨rfl,hb⟩;refine ⟨_,rfl,?_⟩;have n0_ := Aside0.mk (below_step (by repeat (first | (with_reducible first | exact HB.out | apply below_alloc | apply pw_below_drewN | apply below_drew1) | exact HB.out)) hb);clear HB;have HB := n0_;clear n0_;(try clear hb);(try clear hb2);(try clear hk);(try clear hi)) | ((with_reducible refine gate_dst (N := 15) rfl ?_);refine Kd.N_lit (Kd.slice 104 (Kd.int .i8)) _ 31 ?hg (N' := 15) ?hd (xs := ([] : List (List Int))) (inner := []) (ok := (fun k_ => (w.heap.size ≤ k_))) (okp := (fun k_ => (w.heap.size ≤ k_))) ?hr ?hp (fun _ hk => hk) ((show ∀ k_,w9.heap.size ≤ k_ → (fun k_ => (w.heap.size ≤ k_)) k_ from fun k_ hk => (Nat.le_trans (below_size (by repeat (first | (with_reducible first | exact HB.out | apply below_alloc | apply pw_below_drewN | apply below_drew1) | exact HB.out))) hk)) _ (Nat.le_refl _)) (Below.refl _ _) (Nat.le_refl _) (by simp) ?_;(case hd => rfl);(case hg => rfl);(case hr => first | (go_simp;done) | (go_simp;rfl));(case hp => exact (Reps.none _ _));intro v106 w10 ho11 hb hg_ hnew_;clear hg_ hnew_;(first | rw [← Ny105.out] at ho11 | (simp only [Int.reduceToNat] at ho11;rw [← Ny105.out] at ho11));have n0_ := Aside0.mk (Kd.N_lower ho11 (below_size (by repeat (first | (with_reducible first | exact HB.out | apply below_alloc | apply pw_below_drewN | apply below_drew1) | exact HB.out))));have n1_ := Aside0.mk (below_step (by repeat (first | (with_reducible first | exact HB.out | apply below_alloc | apply pw_below_drewN | apply below_drew1) | exact HB.out)) hb);clear HB;have HO107 := n0_;have HB := n1_;clear n0_ n1_;clear hb ho11))
  go_ret2
  exact ⟨_,by first | rfl | (simp [errW_none,errW_some,IntKind.wrap_i64,wrap64];done) | (simp [errW_none,errW_some] <;> rfl) | (simp [*,errW_none,errW_some] <;> rfl),by (with_reducible repeat (first | apply Kd.N_alloc | apply Kd.N_drewN | apply Kd.N_drew));exact HO107.out,by repeat (first | (with_reducible first | exact HB.out | apply below_alloc | apply pw_below_drewN | apply below_drew1) | exact HB.out)⟩
end Go.Proofs.Ytheenidapjkboaa.G
end

section
namespace Go.Proofs.Ytheenidapjkboaa.G
open Go.RowKit Go.Proofs.YtheenidapjkboaaW.PrintWords Go.Proofs.YtheenidapjkboaaW.PrintLast Go.Proofs.YtheenidapjkboaaW.PrintMore
attribute [local go_sem] max2_int min2_int max_two min_two max_three min_three max_four min_four
set_option linter.unusedVariables false
set_option linter.unusedSimpArgs false
mutual
def laws_FnExactReadByAll.j0 : Nat → List (S111) → List Int → List (S146) → List (List Int) → Int → List (S109) → List Int → List (S144) → List (List Int) → Int → Bool → Option (Bool)
 | 0,_,_,_,_,_,_,_,_,_,_,_ => none
 | k + 1,x0,x1,x2,x8,x9,x10,x11,x12,x13,x14,x64 => if x64 = true then (some false) else ((laws_toShipS.f k x0).bind fun t130 => ((laws_eqShipS.f k x10 t130).bind fun t133 => (if t133 = true then ((laws_toHoist.f k x1).bind fun t134 => ((laws_eqHoist.f k x11 t134).bind fun t137 => (if t137 = true then ((laws_toFaultS.f k x2).bind fun t138 => ((laws_eqFaultS.f k x12 t138).bind fun t141 => (if t141 = true then ((laws_markShipS.f k x10 1).bind fun bt142 => ((laws_markHoist.f k x11 bt142.1).bind fun bt144 => ((laws_markFaultS.f k x12 bt144.1).bind fun bt146 => (if bt146.1 < 0 then (laws_FnExactReadByAll.j1 k x0 x1 x2 x8 x9 x13 true) else ((laws_eqHoistS.f k x13 x8).bind fun t148 => (if t148 = true then (laws_FnExactReadByAll.j1 k x0 x1 x2 x8 x9 x13 (x14 != x9)) else (laws_FnExactReadByAll.j1 k x0 x1 x2 x8 x9 x13 true))))))) else (some false)))) else (some false)))) else (some false))))
def laws_FnExactReadByAll.j1 : Nat → List (S111) → List Int → List (S146) → List (List Int) → Int → List (List Int) → Bool → Option (Bool)
 | 0,_,_,_,_,_,_,_ => none
 | k + 1,x0,x1,x2,x8,x9,x13,x101 => if x101 = true then (some false) else ((laws_markHoistS.f k x13 1).bind fun bt149 => ((laws_heldHoistS.f k bt149.2 1).bind fun t151 => (if t151 < 0 then (some false) else (if t151 = bt149.1 then ((laws_toShipS.f k x0).bind fun t152 => ((laws_toHoist.f k x1).bind fun t155 => ((laws_toFaultS.f k x2).bind fun t158 => ((impl_ReadByAll.f k t152 t155 t158).bind fun bt161 => ((laws_eqHoistS.f k bt161.1 x8).bind fun t165 => (if t165 = true then (laws_FnExactReadByAll.j2 k bt149.2 bt149.1 (bt161.2 != x9)) else (laws_FnExactReadByAll.j2 k bt149.2 bt149.1 true))))))) else (some false)))))
def laws_FnExactReadByAll.j2 : Nat → List (List Int) → Int → Bool → Option (Bool)
 | 0,_,_,_ => none
 | k + 1,x13,x16,x131 => if x131 = true then (some false) else ((laws_heldHoistS.f k x13 1).bind fun t166 => (if t166 < 0 then (some false) else (if t166 = x16 then (some true) else (some false))))
end
def laws_FnExactReadByAll.f (k : Nat) (l0 : List (S111)) (l1 : List Int) (l2 : List (S146)) : Option (Bool) := if (l1.length : Int) > 1048576 then (some true) else ((laws_szShipS.f l0 1048576).bind fun t101 => (if t101 < 0 then (some true) else ((laws_szFaultS.f l2 t101).bind fun t102 => (if t102 < 0 then (some true) else ((laws_toShipS.f k l0).bind fun t103 => ((laws_toHoist.f k l1).bind fun t106 => ((laws_toFaultS.f k l2).bind fun t109 => ((spec_ReadByAll.f k t103 t106 t109).bind fun bt112 => ((laws_toShipS.f k l0).bind fun t116 => ((laws_toHoist.f k l1).bind fun t119 => ((laws_toFaultS.f k l2).bind fun t122 => ((impl_ReadByAll.f k t116 t119 t122).bind fun bt125 => ((laws_eqHoistS.f k bt125.1 bt112.1).bind fun t129 => (if t129 = true then (laws_FnExactReadByAll.j0 k l0 l1 l2 bt112.1 bt112.2 t116 t119 t122 bt125.1 bt125.2 (bt125.2 != bt112.2)) else (laws_FnExactReadByAll.j0 k l0 l1 l2 bt112.1 bt112.2 t116 t119 t122 bt125.1 bt125.2 true)))))))))))))))
set_option maxHeartbeats 8000000 in
set_option maxRecDepth 100000 in
theorem laws_FnExactReadByAll.calls (k : Nat) (A0 : Option Addr) (c0 : Nat) (l0 : List (S111)) (A1 : Option Addr) (c1 : Nat) (l1 : List Int) (A2 : Option Addr) (c2 : Nat) (l2 : List (S146)) (r : Bool) (w : World) (hr0 : Kd.C k111 w A0 l0.length l0) (hc0 : l0.length ≤ c0) (hr1 : Kd.C (Kd.int .i8) w A1 l1.length l1) (hc1 : l1.length ≤ c1) (hr2 : Kd.C k146 w A2 l2.length l2) (hc2 : l2.length ≤ c2) (h : laws_FnExactReadByAll.f k l0 l1 l2 = some r) :
  Calls Try.prog 8 #[.slice A0 l0.length c0,.slice A1 l1.length c1,.slice A2 l2.length c2] w fun e w' => e = .returned (.bool r) ∧ Below w.heap.size w w' := by
 have HR0 := Aside0.mk hr0;have HC0 := Aside0.mk hc0;clear hr0 hc0;have HR1 := Aside0.mk hr1;have HC1 := Aside0.mk hc1;clear hr1 hc1;have HR2 := Aside0.mk hr2;have HC2 := Aside0.mk hc2;clear hr2 hc2;have HB := Aside0.mk (Below.refl w.heap.size w);have H : (if (l1.length : Int) > 1048576 then (some true) else ((laws_szShipS.f l0 1048576).bind fun t101 => (if t101 < 0 then (some true) else ((laws_szFaultS.f l2 t101).bind fun t102 => (if t102 < 0 then (some true) else ((laws_toShipS.f k l0).bind fun t103 => ((laws_toHoist.f k l1).bind fun t106 => ((laws_toFaultS.f k l2).bind fun t109 => ((spec_ReadByAll.f k t103 t106 t109).bind fun bt112 => ((laws_toShipS.f k l0).bind fun t116 => ((laws_toHoist.f k l1).bind fun t119 => ((laws_toFaultS.f k l2).bind fun t122 => ((impl_ReadByAll.f k t116 t119 t122).bind fun bt125 => ((laws_eqHoistS.f k bt125.1 bt112.1).bind fun t129 => (if t129 = true then (laws_FnExactReadByAll.j0 k l0 l1 l2 bt112.1 bt112.2 t116 t119 t122 bt125.1 bt125.2 (bt125.2 != bt112.2)) else (laws_FnExactReadByAll.j0 k l0 l1 l2 bt112.1 bt112.2 t116 t119 t122 bt125.1 bt125.2 true)))))))))))))))) = some r := h;clear h
 by_cases c4 : (l1.length : Int) > 1048576
 ·rw [if_pos c4] at H;have c4b0 : decide (1048576 < (l1.length : Int)) = true := decide_eq_true c4;have c4b1 : decide (1048576 < l1.length) = true := decide_eq_true (by omega);clear c4;obtain rfl := Option.some.inj H
  go_enter Try.func8,Try.ntmps8
  go_wp2
  go_ret
  exact ⟨by first | rfl | (simp [errW_none,errW_some,IntKind.wrap_i64,wrap64];done) | (simp [errW_none,errW_some] <;> rfl) | (simp [*,errW_none,errW_some] <;> rfl),by first | exact below_step HBO.out (by repeat (first | (with_reducible first | exact HB.out | apply below_alloc | apply pw_below_drewN | apply below_drew1) | exact HB.out)) | (repeat (first | (with_reducible first | exact HB.out | apply below_alloc | apply pw_below_drewN | apply below_drew1) | exact HB.out))⟩
 ·rw [if_neg c4] at H;have c4b0 : decide (1048576 < (l1.length : Int)) = false := decide_eq_false c4;have c4b1 : decide (1048576 < l1.length) = false := decide_eq_false (by omega);clear c4;replace H := Option.bind_eq_some_iff.mp H;obtain ⟨t101,A50,H⟩ := H;replace H : (if t101 < 0 then (some true) else ((laws_szFaultS.f l2 t101).bind fun t102 => (if t102 < 0 then (some true) else ((laws_toShipS.f k l0).bind fun t103 => ((laws_toHoist.f k l1).bind fun t106 => ((laws_toFaultS.f k l2).bind fun t109 => ((spec_ReadByAll.f k t103 t106 t109).bind fun bt112 => ((laws_toShipS.f k l0).bind fun t116 => ((laws_toHoist.f k l1).bind fun t119 => ((laws_toFaultS.f k l2).bind fun t122 => ((impl_ReadByAll.f k t116 t119 t122).bind fun bt125 => ((laws_eqHoistS.f k bt125.1 bt112.1).bind fun t129 => (if t129 = true then (laws_FnExactReadByAll.j0 k l0 l1 l2 bt112.1 bt112.2 t116 t119 t122 bt125.1 bt125.2 (bt125.2 != bt112.2)) else (laws_FnExactReadByAll.j0 k l0 l1 l2 bt112.1 bt112.2 t116 t119 t122 bt125.1 bt125.2 true)))))))))))))) = some r := H;have A5 := Aside0.mk A50;clear A50
  by_cases c6 : t101 < 0
  ·rw [if_pos c6] at H;have c6b0 : decide (t101 < 0) = true := decide_eq_true c6;clear c6;obtain rfl := Option.some.inj H
   go_enter Try.func8,Try.ntmps8
   go_wp2_with (first | ((with_reducible refine gate_callee (f := 12) rfl ?_);refine goesL_ (some 25) rfl rfl Try.func12 (by kernel_rfl) rfl #[.slice A0 l0.length c0,.int .i64 1048576] rfl (by (try simp only [List.map_toArray,List.map_cons,List.map_nil]);first | done | rfl | (simp only [List.length_drop,List.length_take];rfl)) ?_;(with_reducible refine (laws_szShipS.calls _ _ l0 1048576 t101 _ ?side1 ?side2 A5.out).mono ?_);(case side1 => repeat (first | exact HR0.out | (with_reducible refine Kd.C_alloc ?_ _) | (with_reducible refine Kd.C_drewN ?_ _) | (with_reducible refine Kd.C_drew ?_)));(case side2 => exact HC0.out);rintro e w' ⟨rfl,⟨nd,rfl⟩⟩;refine ⟨_,rfl,?_⟩))
   go_ret
   exact ⟨by first | rfl | (simp [errW_none,errW_some,IntKind.wrap_i64,wrap64];done) | (simp [errW_none,errW_some] <;> rfl) | (simp [*,errW_none,errW_some] <;> rfl),by first | exact below_step HBO.out (by repeat (first | (with_reducible first | exact HB.out | apply below_alloc | apply pw_below_drewN | apply below_drew1) | exact HB.out)) | (repeat (first | (with_reducible first | exact HB.out | apply below_alloc | apply pw_below_drewN | apply below_drew1) | exact HB.out))⟩
  ·rw [if_neg c6] at H;have c6b0 : decide (t101 < 0) = false := decide_eq_false c6;clear c6;replace H := Option.bind_eq_some_iff.mp H;obtain ⟨t102,A70,H⟩ := H;replace H : (if t102 < 0 then (some true) else ((laws_toShipS.f k l0).bind fun t103 => ((laws_toHoist.f k l1).bind fun t106 => ((laws_toFaultS.f k l2).bind fun t109 => ((spec_ReadByAll.f k t103 t106 t109).bind fun bt112 => ((laws_toShipS.f k l0).bind fun t116 => ((laws_toHoist.f k l1).bind fun t119 => ((laws_toFaultS.f k l2).bind fun t122 => ((impl_ReadByAll.f k t116 t119 t122).bind fun bt125 => ((laws_eqHoistS.f k bt125.1 bt112.1).bind fun t129 => (if t129 = true then (laws_FnExactReadByAll.j0 k l0 l1 l2 bt112.1 bt112.2 t116 t119 t122 bt125.1 bt125.2 (bt125.2 != bt112.2)) else (laws_FnExactReadByAll.j0 k l0 l1 l2 bt112.1 bt112.2 t116 t119 t122 bt125.1 bt125.2 true)))))))))))) = some r := H;have A7 := Aside0.mk A70;clear A70
   by_cases c8 : t102 < 0
   ·rw [if_pos c8] at H;have c8b0 : decide (t102 < 0) = true := decide_eq_true c8;clear c8;obtain rfl := Option.some.inj H
    go_enter Try.func8,Try.ntmps8
    go_wp2_with (first | ((with_reducible refine gate_callee (f := 12) rfl ?_);refine goesL_ (some 25) rfl rfl Try.func12 (by kernel_rfl) rfl #[.slice A0 l0.length c0,.int .i64 1048576] rfl (by (try simp only [List.map_toArray,List.map_cons,List.map_nil]);first | done | rfl | (simp only [List.length_drop,List.length_take];rfl)) ?_;(with_reducible refine (laws_szShipS.calls _ _ l0 1048576 t101 _ ?side1 ?side2 A5.out).mono ?_);(case side1 => repeat (first | exact HR0.out | (with_reducible refine Kd.C_alloc ?_ _) | (with_reducible refine Kd.C_drewN ?_ _) | (with_reducible refine Kd.C_drew ?_)));(case side2 => exact HC0.out);rintro e w' ⟨rfl,⟨nd,rfl⟩⟩;refine ⟨_,rfl,?_⟩) | ((with_reducible refine gate_callee (f := 33) rfl ?_);refine goesL_ (some 30) rfl rfl Try.func33 (by kernel_rfl) rfl #[.slice A2 l2.length c2,.int .i64 t101] rfl (by (try simp only [List.map_toArray,List.map_cons,List.map_nil]);first | done | rfl | (simp only [List.length_drop,List.length_take];rfl)) ?_;(with_reducible refine (laws_szFaultS.calls _ _ l2 t101 t102 _ ?side1 ?side2 A7.out).mono ?_);(case side1 => repeat (first | exact HR2.out | (with_reducible refine Kd.C_alloc ?_ _) | (with_reducible refine Kd.C_drewN ?_ _) | (with_reducible refine Kd.C_drew ?_)));(case side2 => exact HC2.out);rintro e w' ⟨rfl,⟨nd,rfl⟩⟩;refine ⟨_,rfl,?_⟩))
    go_ret
    exact ⟨by first | rfl | (simp [errW_none,errW_some,IntKind.wrap_i64,wrap64];done) | (simp [errW_none,errW_some] <;> rfl) | (simp [*,errW_none,errW_some] <;> rfl),by first | exact below_step HBO.out (by repeat (first | (with_reducible first | exact HB.out | apply below_alloc | apply pw_below_drewN | apply below_drew1) | exact HB.out)) | (repeat (first | (with_reducible first | exact HB.out | apply below_alloc | apply pw_below_drewN | apply below_drew1) | exact HB.out))⟩
   ·rw [if_neg c8] at H;have c8b0 : decide (t102 < 0) = false := decide_eq_false c8;clear c8;replace H := Option.bind_eq_some_iff.mp H;obtain ⟨t103,A90,H⟩ := H;replace H : ((laws_toHoist.f k l1).bind fun t106 => ((laws_toFaultS.f k l2).bind fun t109 => ((spec_ReadByAll.f k t103 t106 t109).bind fun bt112 => ((laws_toShipS.f k l0).bind fun t116 => ((laws_toHoist.f k l1).bind fun t119 => ((laws_toFaultS.f k l2).bind fun t122 => ((impl_ReadByAll.f k t116 t119 t122).bind fun bt125 => ((laws_eqHoistS.f k bt125.1 bt112.1).bind fun t129 => (if t129 = true then (laws_FnExactReadByAll.j0 k l0 l1 l2 bt112.1 bt112.2 t116 t119 t122 bt125.1 bt125.2 (bt125.2 != bt112.2)) else (laws_FnExactReadByAll.j0 k l0 l1 l2 bt112.1 bt112.2 t116 t119 t122 bt125.1 bt125.2 true)))))))))) = some r := H;have A9 := Aside0.mk A90;clear A90;replace H := Option.bind_eq_some_iff.mp H;obtain ⟨t106,A100,H⟩ := H;replace H : ((laws_toFaultS.f k l2).bind fun t109 => ((spec_ReadByAll.f k t103 t106 t109).bind fun bt112 => ((laws_toShipS.f k l0).bind fun t116 => ((laws_toHoist.f k l1).bind fun t119 => ((laws_toFaultS.f k l2).bind fun t122 => ((impl_ReadByAll.f k t116 t119 t122).bind fun bt125 => ((laws_eqHoistS.f k bt125.1 bt112.1).bind fun t129 => (if t129 = true then (laws_FnExactReadByAll.j0 k l0 l1 l2 bt112.1 bt112.2 t116 t119 t122 bt125.1 bt125.2 (bt125.2 != bt112.2)) else (laws_FnExactReadByAll.j0 k l0 l1 l2 bt112.1 bt112.2 t116 t119 t122 bt125.1 bt125.2 true))))))))) = some r := H;have A10 := Aside0.mk A100;clear A100;replace H := Option.bind_eq_some_iff.mp H;obtain ⟨t109,A110,H⟩ := H;replace H : ((spec_ReadByAll.f k t103 t106 t109).bind fun bt112 => ((laws_toShipS.f k l0).bind fun t116 => ((laws_toHoist.f k l1).bind fun t119 => ((laws_toFaultS.f k l2).bind fun t122 => ((impl_ReadByAll.f k t116 t119 t122).bind fun bt125 => ((laws_eqHoistS.f k bt125.1 bt112.1).bind fun t129 => (if t129 = true then (laws_FnExactReadByAll.j0 k l0 l1 l2 bt112.1 bt112.2 t116 t119 t122 bt125.1 bt125.2 (bt125.2 != bt112.2)) else (laws_FnExactReadByAll.j0 k l0 l1 l2 bt112.1 bt112.2 t116 t119 t122 bt125.1 bt125.2 true)))))))) = some r := H;have A11 := Aside0.mk A110;clear A110;replace H := Option.bind_eq_some_iff.mp H;obtain ⟨⟨t112,t115⟩,A120,H⟩ := H;replace H : ((laws_toShipS.f k l0).bind fun t116 => ((laws_toHoist.f k l1).bind fun t119 => ((laws_toFaultS.f k l2).bind fun t122 => ((impl_ReadByAll.f k t116 t119 t122).bind fun bt125 => ((laws_eqHoistS.f k bt125.1 t112).bind fun t129 => (if t129 = true then (laws_FnExactReadByAll.j0 k l0 l1 l2 t112 t115 t116 t119 t122 bt125.1 bt125.2 (bt125.2 != t115)) else (laws_FnExactReadByAll.j0 k l0 l1 l2 t112 t115 t116 t119 t122 bt125.1 bt125.2 true))))))) = some r := H;have A12 := Aside0.mk A120;clear A120;replace H := Option.bind_eq_some_iff.mp H;obtain ⟨t116,A130,H⟩ := H;replace H : ((laws_toHoist.f k l1).bind fun t119 => ((laws_toFaultS.f k l2).bind fun t122 => ((impl_ReadByAll.f k t116 t119 t122).bind fun bt125 => ((laws_eqHoistS.f k bt125.1 t112).bind fun t129 => (if t129 = true then (laws_FnExactReadByAll.j0 k l0 l1 l2 t112 t115 t116 t119 t122 bt125.1 bt125.2 (bt125.2 != t115)) else (laws_FnExactReadByAll.j0 k l0 l1 l2 t112 t115 t116 t119 t122 bt125.1 bt125.2 true)))))) = some r := H;have A13 := Aside0.mk A130;clear A130;replace H := Option.bind_eq_some_iff.mp H;obtain ⟨t119,A140,H⟩ := H;replace H : ((laws_toFaultS.f k l2).bind fun t122 => ((impl_ReadByAll.f k t116 t119 t122).bind fun bt125 => ((laws_eqHoistS.f k bt125.1 t112).bind fun t129 => (if t129 = true then (laws_FnExactReadByAll.j0 k l0 l1 l2 t112 t115 t116 t119 t122 bt125.1 bt125.2 (bt125.2 != t115)) else (laws_FnExactReadByAll.j0 k l0 l1 l2 t112 t115 t116 t119 t122 bt125.1 bt125.2 true))))) = some r := H;have A14 := Aside0.mk A140;clear A140;replace H := Option.bind_eq_some_iff.mp H;obtain ⟨t122,A150,H⟩ := H;replace H : ((impl_ReadByAll.f k t116 t119 t122).bind fun bt125 => ((laws_eqHoistS.f k bt125.1 t112).bind fun t129 => (if t129 = true then (laws_FnExactReadByAll.j0 k l0 l1 l2 t112 t115 t116 t119 t122 bt125.1 bt125.2 (bt125.2 != t115)) else (laws_FnExactReadByAll.j0 k l0 l1 l2 t112 t115 t116 t119 t122 bt125.1 bt125.2 true)))) = some r := H;have A15 := Aside0.mk A150;clear A150;replace H := Option.bind_eq_some_iff.mp H;obtain ⟨⟨t125,t126⟩,A160,H⟩ := H;replace H : ((laws_eqHoistS.f k t125 t112).bind fun t129 => (if t129 = true then (laws_FnExactReadByAll.j0 k l0 l1 l2 t112 t115 t116 t119 t122 t125 t126 (t126 != t115)) else (laws_FnExactReadByAll.j0 k l0 l1 l2 t112 t115 t116 t119 t122 t125 t126 true))) = some r := H;have A16 := Aside0.mk A160;clear A160;have HC17 := Aside0.mk H;clear H
    go_enter Try.func8,Try.ntmps8
    go_upto_region 15 with (first | ((with_reducible refine gate_callee (f := 12) rfl ?_);refine goesL_ (some 25) rfl rfl Try.func12 (by kernel_rfl) rfl #[.slice A0 l0.length c0,.int .i64 1048576] rfl (by (try simp only [List.map_toArray,List.map_cons,List.map_nil]);first | done | rfl | (simp only [List.length_drop,List.length_take];rfl)) ?_;(with_reducible refine (laws_szShipS.calls _ _ l0 1048576 t101 _ ?side1 ?side2 A5.out).mono ?_);(case side1 => repeat (first | exact HR0.out | (with_reducible refine Kd.C_alloc ?_ _) | (with_reducible refine Kd.C_drewN ?_ _) | (with_reducible refine Kd.C_drew ?_)));(case side2 => exact HC0.out);rintro e w' ⟨rfl,⟨nd,rfl⟩⟩;refine ⟨_,rfl,?_⟩) | ((with_reducible refine gate_callee (f := 33) rfl ?_);refine goesL_ (some 30) rfl rfl Try.func33 (by kernel_rfl) rfl #[.slice A2 l2.length c2,.int .i64 t101] rfl (by (try simp only [List.map_toArray,List.map_cons,List.map_nil]);first | done | rfl | (simp only [List.length_drop,List.length_take];rfl)) ?_;(with_reducible refine (laws_szFaultS.calls _ _ l2 t101 t102 _ ?side1 ?side2 A7.out).mono ?_);(case side1 => repeat (first | exact HR2.out | (with_reducible refine Kd.C_alloc ?_ _) | (with_reducible refine Kd.C_drewN ?_ _) | (with_reducible refine Kd.C_drew ?_)));(case side2 => exact HC2.out);rintro e w' ⟨rfl,⟨nd,rfl⟩⟩;refine ⟨_,rfl,?_⟩) | ((with_reducible refine gate_callee (f := 15) rfl ?_);refine goesL_ (some 35) rfl rfl Try.func15 (by kernel_rfl) rfl #[.slice A0 l0.length c0] rfl (by (try simp only [List.map_toArray,List.map_cons,List.map_nil]);first | done | rfl | (simp only [List.length_drop,List.length_take];rfl)) ?_;(with_reducible refine (laws_toShipS.calls k _ _ l0 t103 _ ?side1 ?side2 A9.out).mono ?_);(case side1 => repeat (first | exact HR0.out | (with_reducible refine Kd.C_alloc ?_ _) | (with_reducible refine Kd.C_drewN ?_ _) | (with_reducible refine Kd.C_drew ?_)));(case side2 => exact HC0.out);rintro e w18 ⟨v104,rfl,ho0,hb⟩;refine ⟨_,rfl,?_⟩;have n0_ := Aside0.mk (Kd.R_lower ho0 (below_size (by repeat (first | (with_reducible first | exact HB.out | apply below_alloc | apply pw_below_drewN | apply below_drew1) | exact HB.out))));have n1_ := Aside0.mk (below_step (by repeat (first | (with_reducible first | exact HB.out | apply below_alloc | apply pw_below_drewN | apply below_drew1) | exact HB.out)) hb);clear HB;have HO105 := n0_;have HB := n1_;clear n0_ n1_;(try clear hb);(try clear hb2);(try clear hk);(try clear hi);(try clear ho0)) | ((with_reducible refine gate_callee (f := 16) rfl ?_);refine goesL_ (some 37) rfl rfl Try.func16 (by kernel_rfl) rfl #[.slice A1 l1.length c1] rfl (by (try simp only [List.map_toArray,List.map_cons,List.map_nil]);first | done | rfl | (simp only [List.length_drop,List.length_take];rfl)) ?_;(with_reducible refine (laws_toHoist.calls k _ _ l1 t106 _ ?side1 ?side2 A10.out).mono ?_);(case side1 => repeat (first | exact (Kd.C_below HR1.out HB.out) | (with_reducible refine Kd.C_alloc ?_ _) | (with_reducible refine Kd.C_drewN ?_ _) | (with_reducible refine Kd.C_drew ?_)));(case side2 => exact HC1.out);rintro e w19 ⟨v107,rfl,ho0,hb⟩;refine ⟨_,rfl,?_⟩;have n0_ := Aside0.mk (Kd.R_below (by (with_reducible repeat (first | apply Kd.R_alloc | apply Kd.R_drewN | apply Kd.R_drew));exact HO105.out) hb);have n1_ := Aside0.mk (Kd.R_lower ho0 (below_size (by repeat (first | (with_reducible first | exact HB.out | apply below_alloc | apply pw_below_drewN | apply below_drew1) | exact HB.out))));have n2_ := Aside0.mk (below_step (by repeat (first | (with_reducible first | exact HB.out | apply below_alloc | apply pw_below_drewN | apply below_drew1) | exact HB.out)) hb);clear HO105;clear HB;have HO105 := n0_;have HO108 := n1_;have HB := n2_;clear n0_ n1_ n2_;(try clear hb);(try clear hb2);(try clear hk);(try clear hi);(try clear ho0)) | ((with_reducible refine gate_callee (f := 35) rfl ?_);refine goesL_ (some 39) rfl rfl Try.func35 (by kernel_rfl) rfl #[.slice A2 l2.length c2] rfl (by (try simp only [List.map_toArray,List.map_cons,List.map_nil]);first | done | rfl | (simp only [List.length_drop,List.length_take];rfl)) ?_;(with_reducible refine (laws_toFaultS.calls k _ _ l2 t109 _ ?side1 ?side2 A11.out).mono ?_);(case side1 => repeat (first | exact (Kd.C_below HR2.out HB.out) | (with_reducible refine Kd.C_alloc ?_ _) | (with_reducible refine Kd.C_drewN ?_ _) | (with_reducible refine Kd.C_drew ?_)));(case side2 => exact HC2.out);rintro e w20 ⟨v110,rfl,ho0,hb⟩;refine ⟨_,rfl,?_⟩;have n0_ := Aside0.mk (Kd.R_below (by (with_reducible repeat (first | apply Kd.R_alloc | apply Kd.R_drewN | apply Kd.R_drew));exact HO105.out) hb);have n1_ := Aside0.mk (Kd.R_below (by (with_reducible repeat (first | apply Kd.R_alloc | apply Kd.R_drewN | apply Kd.R_drew));exact HO108.out) hb);have n2_ := Aside0.mk (Kd.R_lower ho0 (below_size (by repeat (first | (with_reducible first | exact HB.out | apply below_alloc | apply pw_below_drewN | apply below_drew1) | exact HB.out))));have n3_ := Aside0.mk (below_step (by repeat (first | (with_reducible first | exact HB.out | apply below_alloc | apply pw_below_drewN | apply below_drew1) | exact HB.out)) hb);clear HO105;clear HO108;clear HB;have HO105 := n0_;have HO108 := n1_;have HO111 := n2_;have HB := n3_;clear n0_ n1_ n2_ n3_;(try clear hb);(try clear hb2);(try clear hk);(try clear hi);(try clear ho0);obtain ⟨Ao21,co21,eo21⟩ := Kd.R_slice HO105.out;subst eo21;obtain ⟨Ao22,co22,eo22⟩ := Kd.R_slice HO108.out;subst eo22;obtain ⟨Ao23,co23,eo23⟩ := Kd.R_slice HO111.out;subst eo23) | ((with_reducible refine gate_callee (f := 42) rfl ?_);refine goesL_ (some 40) rfl rfl Try.func42 (by kernel_rfl) rfl #[.slice Ao21 t103.length co21,.slice Ao22 t106.length co22,.slice Ao23 t109.length co23] rfl (by (try simp only [List.map_toArray,List.map_cons,List.map_nil]);first | done | rfl | (simp only [List.length_drop,List.length_take];rfl)) ?_;(with_reducible refine (spec_ReadByAll.calls k _ _ t103 _ _ t106 _ _ t109 t112 t115 _ ?side1 ?side2 ?side3 ?side4 ?side5 ?side6 A12.out).mono ?_);(case side1 => repeat (first | exact (Kd.R_reads' HO105.out).2.2 | (with_reducible refine Kd.C_alloc ?_ _) | (with_reducible refine Kd.C_drewN ?_ _) | (with_reducible refine Kd.C_drew ?_)));(case side2 => exact (Kd.R_reads' HO105.out).2.1);(case side3 => repeat (first | exact (Kd.R_reads' HO108.out).2.2 | (with_reducible refine Kd.C_alloc ?_ _) | (with_reducible refine Kd.C_drewN ?_ _) | (with_reducible refine Kd.C_drew ?_)));(case side4 => exact (Kd.R_reads' HO108.out).2.1);(case side5 => repeat (first | exact (Kd.R_reads' HO111.out).2.2 | (with_reducible refine Kd.C_alloc ?_ _) | (with_reducible refine Kd.C_drewN ?_ _) | (with_reducible refine Kd.C_drew ?_)));(case side6 => exact (Kd.R_reads' HO111.out).2.1);rintro e w24 ⟨vc_,rfl,ho0,hb⟩;refine ⟨_,rfl,?_⟩;obtain ⟨A900,c900,ec_,hcc_,hrc_⟩ := Kd.N_reads ho0;subst ec_;have HR900 := Aside0.mk hrc_;have HC900 := Aside0.mk hcc_;clear ho0 hrc_ hcc_;have HBO := Aside0.mk (below_step (by repeat (first | (with_reducible first | exact HB.out | apply below_alloc | apply pw_below_drewN | apply below_drew1) | exact HB.out)) hb);have n_ := Aside0.mk (Kd.C_below HR0.out HBO.out);clear HR0;have HR0 := n_;clear n_;have n_ := Aside0.mk (Kd.C_below HR1.out HBO.out);clear HR1;have HR1 := n_;clear n_;have n_ := Aside0.mk (Kd.C_below HR2.out HBO.out);clear HR2;have HR2 := n_;clear n_;(try clear HO105);(try clear HO108);(try clear HO111);clear HB;(try clear hb);rename World => w;have HB := Aside0.mk (Below.refl w.heap.size w)) | ((with_reducible refine gate_callee (f := 15) rfl ?_);refine goesL_ (some 44) rfl rfl Try.func15 (by kernel_rfl) rfl #[.slice A0 l0.length c0] rfl (by (try simp only [List.map_toArray,List.map_cons,List.map_nil]);first | done | rfl | (simp only [List.length_drop,List.length_take];rfl)) ?_;(with_reducible refine (laws_toShipS.calls k _ _ l0 t116 _ ?side1 ?side2 A13.out).mono ?_);(case side1 => repeat (first | exact (Kd.C_below HR0.out HB.out) | (with_reducible refine Kd.C_alloc ?_ _) | (with_reducible refine Kd.C_drewN ?_ _) | (with_reducible refine Kd.C_drew ?_)));(case side2 => exact HC0.out);rintro e w25 ⟨v117,rfl,ho0,hb⟩;refine ⟨_,rfl,?_⟩;have n0_ := Aside0.mk (Kd.R_lower ho0 (below_size (by repeat (first | (with_reducible first | exact HB.out | apply below_alloc | apply pw_below_drewN | apply below_drew1) | exact HB.out))));have n1_ := Aside0.mk (below_step (by repeat (first | (with_reducible first | exact HB.out | apply below_alloc | apply pw_below_drewN | apply below_drew1) | exact HB.out)) hb);clear HB;have HO118 := n0_;have HB := n1_;clear n0_ n1_;(try clear hb);(try clear hb2);(try clear hk);(try clear hi);(try clear ho0)) | ((with_reducible refine gate_callee (f := 16) rfl ?_);refine goesL_ (some 46) rfl rfl Try.func16 (by kernel_rfl) rfl #[.slice A1 l1.length c1] rfl (by (try simp only [List.map_toArray,List.map_cons,List.map_nil]);first | done | rfl | (simp only [List.length_drop,List.length_take];rfl)) ?_;(with_reducible refine (laws_toHoist.calls k _ _ l1 t119 _ ?side1 ?side2 A14.out).mono ?_);(case side1 => repeat (first | exact (Kd.C_below HR1.out HB.out) | (with_reducible refine Kd.C_alloc ?_ _) | (with_reducible refine Kd.C_drewN ?_ _) | (with_reducible refine Kd.C_drew ?_)));(case side2 => exact HC1.out);rintro e w26 ⟨v120,rfl,ho0,hb⟩;refine ⟨_,rfl,?_⟩;have n0_ := Aside0.mk (Kd.R_below (by (with_reducible repeat (first | apply Kd.R_alloc | apply Kd.R_drewN | apply Kd.R_drew));exact HO118.out) hb);have n1_ := Aside0.mk (Kd.R_lower ho0 (below_size (by repeat (first | (with_reducible first | exact HB.out | apply below_alloc | apply pw_below_drewN | apply below_drew1) | exact HB.out))));have n2_ := Aside0.mk (below_step (by repeat (first | (with_reducible first | exact HB.out | apply below_alloc | apply pw_below_drewN | apply below_drew1) | exact HB.out)) hb);clear HO118;clear HB;have HO118 := n0_;have HO121 := n1_;have HB := n2_;clear n0_ n1_ n2_;(try clear hb);(try clear hb2);(try clear hk);(try clear hi);(try clear ho0)) | ((with_reducible refine gate_callee (f := 35) rfl ?_);refine goesL_ (some 48) rfl rfl Try.func35 (by kernel_rfl) rfl #[.slice A2 l2.length c2] rfl (by (try simp only [List.map_toArray,List.map_cons,List.map_nil]);first | done | rfl | (simp only [List.length_drop,List.length_take];rfl)) ?_;(with_reducible refine (laws_toFaultS.calls k _ _ l2 t122 _ ?side1 ?side2 A15.out).mono ?_);(case side1 => repeat (first | exact (Kd.C_below HR2.out HB.out) | (with_reducible refine Kd.C_alloc ?_ _) | (with_reducible refine Kd.C_drewN ?_ _) | (with_reducible refine Kd.C_drew ?_)));(case side2 => exact HC2.out);rintro e w27 ⟨v123,rfl,ho0,hb⟩;refine ⟨_,rfl,?_⟩;have n0_ := Aside0.mk (Kd.R_below (by (with_reducible repeat (first | apply Kd.R_alloc | apply Kd.R_drewN | apply Kd.R_drew));exact HO118.out) hb);have n1_ := Aside0.mk (Kd.R_below (by (with_reducible repeat (first | apply Kd.R_alloc | apply Kd.R_drewN | apply Kd.R_drew));exact HO121.out) hb);have n2_ := Aside0.mk (Kd.R_lower ho0 (below_size (by repeat (first | (with_reducible first | exact HB.out | apply below_alloc | apply pw_below_drewN | apply below_drew1) | exact HB.out))));have n3_ := Aside0.mk (below_step (by repeat (first | (with_reducible first | exact HB.out | apply below_alloc | apply pw_below_drewN | apply below_drew1) | exact HB.out)) hb);clear HO118;clear HO121;clear HB;have HO118 := n0_;have HO121 := n1_;have HO124 := n2_;have HB := n3_;clear n0_ n1_ n2_ n3_;(try clear hb);(try clear hb2);(try clear hk);(try clear hi);(try clear ho0);obtain ⟨Ao28,co28,eo28⟩ := Kd.R_slice HO118.out;subst eo28;obtain ⟨Ao29,co29,eo29⟩ := Kd.R_slice HO121.out;subst eo29;obtain ⟨Ao30,co30,eo30⟩ := Kd.R_slice HO124.out;subst eo30) | ((with_reducible refine gate_callee (f := 43) rfl ?_);refine goesL_ (some 53) rfl rfl Try.func43 (by kernel_rfl) rfl #[.slice Ao28 t116.length co28,.slice Ao29 t119.length co29,.slice Ao30 t122.length co30] rfl (by (try simp only [List.map_toArray,List.map_cons,List.map_nil]);first | done | rfl | (simp only [List.length_drop,List.length_take];rfl)) ?_;(with_reducible refine (impl_ReadByAll.calls k _ _ t116 _ _ t119 _ _ t122 t125 t126 _ ?side1 ?side2 ?side3 ?side4 ?side5 ?side6 A16.out).mono ?_);(case side1 => repeat (first | exact (Kd.R_reads' HO118.out).2.2 | (with_reducible refine Kd.C_alloc ?_ _) | (with_reducible refine Kd.C_drewN ?_ _) | (with_reducible refine Kd.C_drew ?_)));(case side2 => exact (Kd.R_reads' HO118.out).2.1);(case side3 => repeat (first | exact (Kd.R_reads' HO121.out).2.2 | (with_reducible refine Kd.C_alloc ?_ _) | (with_reducible refine Kd.C_drewN ?_ _) | (with_reducible refine Kd.C_drew ?_)));(case side4 => exact (Kd.R_reads' HO121.out).2.1);(case side5 => repeat (first | exact (Kd.R_reads' HO124.out).2.2 | (with_reducible refine Kd.C_alloc ?_ _) | (with_reducible refine Kd.C_drewN ?_ _) | (with_reducible refine Kd.C_drew ?_)));(case side6 => exact (Kd.R_reads' HO124.out).2.1);rintro e w31 ⟨v127,rfl,ho0,hb⟩;refine ⟨_,rfl,?_⟩;have n0_ := Aside0.mk (Kd.R_below (by (with_reducible repeat (first | apply Kd.R_alloc | apply Kd.R_drewN | apply Kd.R_drew));exact HO118.out) hb);have n1_ := Aside0.mk (Kd.R_below (by (with_reducible repeat (first | apply Kd.R_alloc | apply Kd.R_drewN | apply Kd.R_drew));exact HO121.out) hb);have n2_ := Aside0.mk (Kd.R_below (by (with_reducible repeat (first | apply Kd.R_alloc | apply Kd.R_drewN | apply Kd.R_drew));exact HO124.out) hb);have n3_ := Aside0.mk (Kd.S_lower (Kd.S_new' ho0 (Kd.R_lt (by (with_reducible repeat (first | apply Kd.R_alloc | apply Kd.R_drewN | apply Kd.R_drew));exact HO121.out))) (below_size (by repeat (first | (with_reducible first | exact HB.out | apply below_alloc | apply pw_below_drewN | apply below_drew1) | exact HB.out))));have n4_ := Aside0.mk (below_step (by repeat (first | (with_reducible first | exact HB.out | apply below_alloc | apply pw_below_drewN | apply below_drew1) | exact HB.out)) hb);clear HO118;clear HO121;clear HO124;clear HB;have HO118 := n0_;have HO121 := n1_;have HO124 := n2_;have HO128 := n3_;have HB := n4_;clear n0_ n1_ n2_ n3_ n4_;(try clear hb);(try clear hb2);(try clear hk);(try clear hi);(try clear ho0)))
    (try simp only [Act.put,List.setIfInBounds_toArray,List.set_cons_zero,List.set_cons_succ])
    go_cut [64] (fun v64 wc => ∃ (kq : Nat) (x64_16 : Bool),v64 = .bool x64_16 ∧ Aside0 (laws_FnExactReadByAll.j0 kq l0 l1 l2 t112 t115 t116 t119 t122 t125 t126 x64_16 = some r) ∧ Aside0 (kq ≤ k) ∧ Aside0 (Kd.R k109 109 wc w.heap.size (fun _ => True) (.slice Ao28 t116.length co28) t116) ∧ Aside0 (Kd.R (Kd.int .i8) 104 wc w.heap.size (fun _ => True) (.slice Ao29 t119.length co29) t119) ∧ Aside0 (Kd.R k144 144 wc w.heap.size (fun _ => True) (.slice Ao30 t122.length co30) t122) ∧ Aside0 (Kd.S (Kd.slice 104 (Kd.int .i8)) 31 wc w.heap.size (fun k_ => some k_ ≠ ((.slice Ao29 t119.length co29) : Value).ownBlock) v127 t125) ∧ Aside0 (Below w.heap.size w wc))
    case first =>
     have H := HC17.out;clear HC17;replace H := Option.bind_eq_some_iff.mp H;obtain ⟨t129,A320,H⟩ := H;replace H : (if t129 = true then (laws_FnExactReadByAll.j0 k l0 l1 l2 t112 t115 t116 t119 t122 t125 t126 (t126 != t115)) else (laws_FnExactReadByAll.j0 k l0 l1 l2 t112 t115 t116 t119 t122 t125 t126 true)) = some r := H;have A32 := Aside0.mk A320;clear A320
     by_cases c33 : t129 = true
     ·subst c33
      have H1 : (laws_FnExactReadByAll.j0 k l0 l1 l2 t112 t115 t116 t119 t122 t125 t126 (t126 != t115)) = some r := by rw [if_pos rfl] at H;exact H
      clear H;have H := H1;clear H1;have H' := Aside0.mk H;clear H;obtain ⟨Ao34,co34,eo34⟩ := Kd.S_slice HO128.out;subst eo34
      go_wp2_with (first | ((with_reducible refine gate_callee (f := 21) rfl ?_);refine goesL_ (some 58) rfl rfl Try.func21 (by kernel_rfl) rfl #[.slice Ao34 t125.length co34,.slice A900 t112.length c900] rfl (by (try simp only [List.map_toArray,List.map_cons,List.map_nil]);first | done | rfl | (simp only [List.length_drop,List.length_take];rfl)) ?_;(with_reducible refine (laws_eqHoistS.calls k _ _ t125 _ _ t112 true _ ?side1 ?side2 ?side3 ?side4 A32.out).mono ?_);(case side1 => repeat (first | exact (Kd.S_reads' HO128.out).2.2 | (with_reducible refine Kd.C_alloc ?_ _) | (with_reducible refine Kd.C_drewN ?_ _) | (with_reducible refine Kd.C_drew ?_)));(case side2 => exact (Kd.S_reads' HO128.out).2.1);(case side3 => repeat (first | exact (Kd.C_below HR900.out HB.out) | (with_reducible refine Kd.C_alloc ?_ _) | (with_reducible refine Kd.C_drewN ?_ _) | (with_reducible refine Kd.C_drew ?_)));(case side4 => exact HC900.out);rintro e w' ⟨rfl,⟨nd,rfl⟩⟩;refine ⟨_,rfl,?_⟩))
      go_meet
      case rel => exact ⟨_,((t126 != t115)),(by first | rfl | (simp only [IntKind.wrap_i64,wrap64];done) | (simp;done) | (simp [*];done)),H',⟨by first | omega | exact Nat.le_refl _⟩,⟨by (with_reducible repeat (first | apply Kd.R_alloc | apply Kd.R_drewN | apply Kd.R_drew));exact HO118.out⟩,⟨by (with_reducible repeat (first | apply Kd.R_alloc | apply Kd.R_drewN | apply Kd.R_drew));exact HO121.out⟩,⟨by (with_reducible repeat (first | apply Kd.R_alloc | apply Kd.R_drewN | apply Kd.R_drew));exact HO124.out⟩,⟨by (with_reducible repeat (first | apply Kd.S_alloc | apply Kd.S_drewN | apply Kd.S_drew));exact Kd.S_mono HO128.out (fun _ hk => hk.2)⟩,⟨by repeat (first | (with_reducible first | exact HB.out | apply below_alloc | apply pw_below_drewN | apply below_drew1) | exact HB.out)⟩⟩
     ·replace c33 := Bool.eq_false_iff.mpr c33;subst c33
      have H1 : (laws_FnExactReadByAll.j0 k l0 l1 l2 t112 t115 t116 t119 t122 t125 t126 true) = some r := by rw [if_neg (show ¬ (false = true) by decide)] at H;exact H
      clear H;have H := H1;clear H1;have H' := Aside0.mk H;clear H;obtain ⟨Ao35,co35,eo35⟩ := Kd.S_slice HO128.out;subst eo35
      go_wp2_with (first | ((with_reducible refine gate_callee (f := 21) rfl ?_);refine goesL_ (some 58) rfl rfl Try.func21 (by kernel_rfl) rfl #[.slice Ao35 t125.length co35,.slice A900 t112.length c900] rfl (by (try simp only [List.map_toArray,List.map_cons,List.map_nil]);first | done | rfl | (simp only [List.length_drop,List.length_take];rfl)) ?_;(with_reducible refine (laws_eqHoistS.calls k _ _ t125 _ _ t112 false _ ?side1 ?side2 ?side3 ?side4 A32.out).mono ?_);(case side1 => repeat (first | exact (Kd.S_reads' HO128.out).2.2 | (with_reducible refine Kd.C_alloc ?_ _) | (with_reducible refine Kd.C_drewN ?_ _) | (with_reducible refine Kd.C_drew ?_)));(case side2 => exact (Kd.S_reads' HO128.out).2.1);(case side3 => repeat (first | exact (Kd.C_below HR900.out HB.out) | (with_reducible refine Kd.C_alloc ?_ _) | (with_reducible refine Kd.C_drewN ?_ _) | (with_reducible refine Kd.C_drew ?_)));(case side4 => exact HC900.out);rintro e w' ⟨rfl,⟨nd,rfl⟩⟩;refine ⟨_,rfl,?_⟩))
      go_meet
      case rel => exact ⟨_,(true),(by first | rfl | (simp only [IntKind.wrap_i64,wrap64];done) | (simp;done) | (simp [*];done)),H',⟨by first | omega | exact Nat.le_refl _⟩,⟨by (with_reducible repeat (first | apply Kd.R_alloc | apply Kd.R_drewN | apply Kd.R_drew));exact HO118.out⟩,⟨by (with_reducible repeat (first | apply Kd.R_alloc | apply Kd.R_drewN | apply Kd.R_drew));exact HO121.out⟩,⟨by (with_reducible repeat (first | apply Kd.R_alloc | apply Kd.R_drewN | apply Kd.R_drew));exact HO124.out⟩,⟨by (with_reducible repeat (first | apply Kd.S_alloc | apply Kd.S_drewN | apply Kd.S_drew));exact Kd.S_mono HO128.out (fun _ hk => hk.2)⟩,⟨by repeat (first | (with_reducible first | exact HB.out | apply below_alloc | apply pw_below_drewN | apply below_drew1) | exact HB.out)⟩⟩
    case rest =>
     clear HC17;(try clear c1);(try clear c2);(try clear p2);(try clear c3);(try clear c4);(try clear c4b0);(try clear c4b1);(try clear c6);(try clear c6b0);(try clear c8);(try clear c8b0);(try clear c9);(try clear c12);(try clear c15);(try clear c16);(try clear c21);(try clear c33);(try clear c35);obtain ⟨kq,x64_16,rfl,HA,HJ16,HO_10,HO_11,HO_12,HO_13,HB⟩ := hcut
     cases kq with
     | zero => exact absurd HA.out (by simp [laws_FnExactReadByAll.j0])
     | succ kj16 =>
      have H := HA.out;clear HA;simp only [laws_FnExactReadByAll.j0] at H
      by_cases c36 : x64_16 = true
      ·subst c36
       have H1 : (some false) = some r := by rw [if_pos rfl] at H;exact H
       clear H;have H := H1;clear H1;obtain rfl := Option.some.inj H
       go_wp2
       go_ret
       exact ⟨by first | rfl | (simp [errW_none,errW_some,IntKind.wrap_i64,wrap64];done) | (simp [errW_none,errW_some] <;> rfl) | (simp [*,errW_none,errW_some] <;> rfl),by first | exact below_step HBO.out (by repeat (first | (with_reducible first | exact HB.out | apply below_alloc | apply pw_below_drewN | apply below_drew1) | exact HB.out)) | (repeat (first | (with_reducible first | exact HB.out | apply below_alloc | apply pw_below_drewN | apply below_drew1) | exact HB.out))⟩
      ·replace c36 := Bool.eq_false_iff.mpr c36;subst c36
       have H1 : ((laws_toShipS.f kj16 l0).bind fun t130 => ((laws_eqShipS.f kj16 t116 t130).bind fun t133 => (if t133 = true then ((laws_toHoist.f kj16 l1).bind fun t134 => ((laws_eqHoist.f kj16 t119 t134).bind fun t137 => (if t137 = true then ((laws_toFaultS.f kj16 l2).bind fun t138 => ((laws_eqFaultS.f kj16 t122 t138).bind fun t141 => (if t141 = true then ((laws_markShipS.f kj16 t116 1).bind fun bt142 => ((laws_markHoist.f kj16 t119 bt142.1).bind fun bt144 => ((laws_markFaultS.f kj16 t122 bt144.1).bind fun bt146 => (if bt146.1 < 0 then (laws_FnExactReadByAll.j1 kj16 l0 l1 l2 t112 t115 t125 true) else ((laws_eqHoistS.f kj16 t125 t112).bind fun t148 => (if t148 = true then (laws_FnExactReadByAll.j1 kj16 l0 l1 l2 t112 t115 t125 (t126 != t115)) else (laws_FnExactReadByAll.j1 kj16 l0 l1 l2 t112 t115 t125 true))))))) else (some false)))) else (some false)))) else (some false)))) = some r := by rw [if_neg (show ¬ (false = true) by decide)] at H;exact H
       clear H;have H := H1;clear H1;replace H := Option.bind_eq_some_iff.mp H;obtain ⟨t130,A370,H⟩ := H;replace H : ((laws_eqShipS.f kj16 t116 t130).bind fun t133 => (if t133 = true then ((laws_toHoist.f kj16 l1).bind fun t134 => ((laws_eqHoist.f kj16 t119 t134).bind fun t137 => (if t137 = true then ((laws_toFaultS.f kj16 l2).bind fun t138 => ((laws_eqFaultS.f kj16 t122 t138).bind fun t141 => (if t141 = true then ((laws_markShipS.f kj16 t116 1).bind fun bt142 => ((laws_markHoist.f kj16 t119 bt142.1).bind fun bt144 => ((laws_markFaultS.f kj16 t122 bt144.1).bind fun bt146 => (if bt146.1 < 0 then (laws_FnExactReadByAll.j1 kj16 l0 l1 l2 t112 t115 t125 true) else ((laws_eqHoistS.f kj16 t125 t112).bind fun t148 => (if t148 = true then (laws_FnExactReadByAll.j1 kj16 l0 l1 l2 t112 t115 t125 (t126 != t115)) else (laws_FnExactReadByAll.j1 kj16 l0 l1 l2 t112 t115 t125 true))))))) else (some false)))) else (some false)))) else (some false))) = some r := H;have A37 := Aside0.mk A370;clear A370;replace H := Option.bind_eq_some_iff.mp H;obtain ⟨t133,A380,H⟩ := H;replace H : (if t133 = true then ((laws_toHoist.f kj16 l1).bind fun t134 => ((laws_eqHoist.f kj16 t119 t134).bind fun t137 => (if t137 = true then ((laws_toFaultS.f kj16 l2).bind fun t138 => ((laws_eqFaultS.f kj16 t122 t138).bind fun t141 => (if t141 = true then ((laws_markShipS.f kj16 t116 1).bind fun bt142 => ((laws_markHoist.f kj16 t119 bt142.1).bind fun bt144 => ((laws_markFaultS.f kj16 t122 bt144.1).bind fun bt146 => (if bt146.1 < 0 then (laws_FnExactReadByAll.j1 kj16 l0 l1 l2 t112 t115 t125 true) else ((laws_eqHoistS.f kj16 t125 t112).bind fun t148 => (if t148 = true then (laws_FnExactReadByAll.j1 kj16 l0 l1 l2 t112 t115 t125 (t126 != t115)) else (laws_FnExactReadByAll.j1 kj16 l0 l1 l2 t112 t115 t125 true))))))) else (some false)))) else (some false)))) else (some false)) = some r := H;have A38 := Aside0.mk A380;clear A380
       by_cases c39 : t133 = true
       ·subst c39
        have H1 : ((laws_toHoist.f kj16 l1).bind fun t134 => ((laws_eqHoist.f kj16 t119 t134).bind fun t137 => (if t137 = true then ((laws_toFaultS.f kj16 l2).bind fun t138 => ((laws_eqFaultS.f kj16 t122 t138).bind fun t141 => (if t141 = true then ((laws_markShipS.f kj16 t116 1).bind fun bt142 => ((laws_markHoist.f kj16 t119 bt142.1).bind fun bt144 => ((laws_markFaultS.f kj16 t122 bt144.1).bind fun bt146 => (if bt146.1 < 0 then (laws_FnExactReadByAll.j1 kj16 l0 l1 l2 t112 t115 t125 true) else ((laws_eqHoistS.f kj16 t125 t112).bind fun t148 => (if t148 = true then (laws_FnExactReadByAll.j1 kj16 l0 l1 l2 t112 t115 t125 (t126 != t115)) else (laws_FnExactReadByAll.j1 kj16 l0 l1 l2 t112 t115 t125 true))))))) else (some false)))) else (some false)))) = some r := by rw [if_pos rfl] at H;exact H
        clear H;have H := H1;clear H1;replace H := Option.bind_eq_some_iff.mp H;obtain ⟨t134,A400,H⟩ := H;replace H : ((laws_eqHoist.f kj16 t119 t134).bind fun t137 => (if t137 = true then ((laws_toFaultS.f kj16 l2).bind fun t138 => ((laws_eqFaultS.f kj16 t122 t138).bind fun t141 => (if t141 = true then ((laws_markShipS.f kj16 t116 1).bind fun bt142 => ((laws_markHoist.f kj16 t119 bt142.1).bind fun bt144 => ((laws_markFaultS.f kj16 t122 bt144.1).bind fun bt146 => (if bt146.1 < 0 then (laws_FnExactReadByAll.j1 kj16 l0 l1 l2 t112 t115 t125 true) else ((laws_eqHoistS.f kj16 t125 t112).bind fun t148 => (if t148 = true then (laws_FnExactReadByAll.j1 kj16 l0 l1 l2 t112 t115 t125 (t126 != t115)) else (laws_FnExactReadByAll.j1 kj16 l0 l1 l2 t112 t115 t125 true))))))) else (some false)))) else (some false))) = some r := H;have A40 := Aside0.mk A400;clear A400;replace H := Option.bind_eq_some_iff.mp H;obtain ⟨t137,A410,H⟩ := H;replace H : (if t137 = true then ((laws_toFaultS.f kj16 l2).bind fun t138 => ((laws_eqFaultS.f kj16 t122 t138).bind fun t141 => (if t141 = true then ((laws_markShipS.f kj16 t116 1).bind fun bt142 => ((laws_markHoist.f kj16 t119 bt142.1).bind fun bt144 => ((laws_markFaultS.f kj16 t122 bt144.1).bind fun bt146 => (if bt146.1 < 0 then (laws_FnExactReadByAll.j1 kj16 l0 l1 l2 t112 t115 t125 true) else ((laws_eqHoistS.f kj16 t125 t112).bind fun t148 => (if t148 = true then (laws_FnExactReadByAll.j1 kj16 l0 l1 l2 t112 t115 t125 (t126 != t115)) else (laws_FnExactReadByAll.j1 kj16 l0 l1 l2 t112 t115 t125 true))))))) else (some false)))) else (some false)) = some r := H;have A41 := Aside0.mk A410;clear A410
        by_cases c42 : t137 = true
        ·subst c42
         have H1 : ((laws_toFaultS.f kj16 l2).bind fun t138 => ((laws_eqFaultS.f kj16 t122 t138).bind fun t141 => (if t141 = true then ((laws_markShipS.f kj16 t116 1).bind fun bt142 => ((laws_markHoist.f kj16 t119 bt142.1).bind fun bt144 => ((laws_markFaultS.f kj16 t122 bt144.1).bind fun bt146 => (if bt146.1 < 0 then (laws_FnExactReadByAll.j1 kj16 l0 l1 l2 t112 t115 t125 true) else ((laws_eqHoistS.f kj16 t125 t112).bind fun t148 => (if t148 = true then (laws_FnExactReadByAll.j1 kj16 l0 l1 l2 t112 t115 t125 (t126 != t115)) else (laws_FnExactReadByAll.j1 kj16 l0 l1 l2 t112 t115 t125 true))))))) else (some false)))) = some r := by rw [if_pos rfl] at H;exact H
         clear H;have H := H1;clear H1;replace H := Option.bind_eq_some_iff.mp H;obtain ⟨t138,A430,H⟩ := H;replace H : ((laws_eqFaultS.f kj16 t122 t138).bind fun t141 => (if t141 = true then ((laws_markShipS.f kj16 t116 1).bind fun bt142 => ((laws_markHoist.f kj16 t119 bt142.1).bind fun bt144 => ((laws_markFaultS.f kj16 t122 bt144.1).bind fun bt146 => (if bt146.1 < 0 then (laws_FnExactReadByAll.j1 kj16 l0 l1 l2 t112 t115 t125 true) else ((laws_eqHoistS.f kj16 t125 t112).bind fun t148 => (if t148 = true then (laws_FnExactReadByAll.j1 kj16 l0 l1 l2 t112 t115 t125 (t126 != t115)) else (laws_FnExactReadByAll.j1 kj16 l0 l1 l2 t112 t115 t125 true))))))) else (some false))) = some r := H;have A43 := Aside0.mk A430;clear A430;replace H := Option.bind_eq_some_iff.mp H;obtain ⟨t141,A440,H⟩ := H;replace H : (if t141 = true then ((laws_markShipS.f kj16 t116 1).bind fun bt142 => ((laws_markHoist.f kj16 t119 bt142.1).bind fun bt144 => ((laws_markFaultS.f kj16 t122 bt144.1).bind fun bt146 => (if bt146.1 < 0 then (laws_FnExactReadByAll.j1 kj16 l0 l1 l2 t112 t115 t125 true) else ((laws_eqHoistS.f kj16 t125 t112).bind fun t148 => (if t148 = true then (laws_FnExactReadByAll.j1 kj16 l0 l1 l2 t112 t115 t125 (t126 != t115)) else (laws_FnExactReadByAll.j1 kj16 l0 l1 l2 t112 t115 t125 true))))))) else (some false)) = some r := H;have A44 := Aside0.mk A440;clear A440
         by_cases c45 : t141 = true
         ·subst c45
          have H1 : ((laws_markShipS.f kj16 t116 1).bind fun bt142 => ((laws_markHoist.f kj16 t119 bt142.1).bind fun bt144 => ((laws_markFaultS.f kj16 t122 bt144.1).bind fun bt146 => (if bt146.1 < 0 then (laws_FnExactReadByAll.j1 kj16 l0 l1 l2 t112 t115 t125 true) else ((laws_eqHoistS.f kj16 t125 t112).bind fun t148 => (if t148 = true then (laws_FnExactReadByAll.j1 kj16 l0 l1 l2 t112 t115 t125 (t126 != t115)) else (laws_FnExactReadByAll.j1 kj16 l0 l1 l2 t112 t115 t125 true))))))) = some r := by rw [if_pos rfl] at H;exact H
          clear H;have H := H1;clear H1;replace H := Option.bind_eq_some_iff.mp H;obtain ⟨⟨t142,t143⟩,A460,H⟩ := H;replace H : ((laws_markHoist.f kj16 t119 t142).bind fun bt144 => ((laws_markFaultS.f kj16 t122 bt144.1).bind fun bt146 => (if bt146.1 < 0 then (laws_FnExactReadByAll.j1 kj16 l0 l1 l2 t112 t115 t125 true) else ((laws_eqHoistS.f kj16 t125 t112).bind fun t148 => (if t148 = true then (laws_FnExactReadByAll.j1 kj16 l0 l1 l2 t112 t115 t125 (t126 != t115)) else (laws_FnExactReadByAll.j1 kj16 l0 l1 l2 t112 t115 t125 true)))))) = some r := H;have A46 := Aside0.mk A460;clear A460;replace H := Option.bind_eq_some_iff.mp H;obtain ⟨⟨t144,t145⟩,A470,H⟩ := H;replace H : ((laws_markFaultS.f kj16 t122 t144).bind fun bt146 => (if bt146.1 < 0 then (laws_FnExactReadByAll.j1 kj16 l0 l1 l2 t112 t115 t125 true) else ((laws_eqHoistS.f kj16 t125 t112).bind fun t148 => (if t148 = true then (laws_FnExactReadByAll.j1 kj16 l0 l1 l2 t112 t115 t125 (t126 != t115)) else (laws_FnExactReadByAll.j1 kj16 l0 l1 l2 t112 t115 t125 true))))) = some r := H;have A47 := Aside0.mk A470;clear A470;replace H := Option.bind_eq_some_iff.mp H;obtain ⟨⟨t146,t147⟩,A480,H⟩ := H;replace H : (if t146 < 0 then (laws_FnExactReadByAll.j1 kj16 l0 l1 l2 t112 t115 t125 true) else ((laws_eqHoistS.f kj16 t125 t112).bind fun t148 => (if t148 = true then (laws_FnExactReadByAll.j1 kj16 l0 l1 l2 t112 t115 t125 (t126 != t115)) else (laws_FnExactReadByAll.j1 kj16 l0 l1 l2 t112 t115 t125 true)))) = some r := H;have A48 := Aside0.mk A480;clear A480;have HC49 := Aside0.mk H;clear H
          go_upto_region 27 with (first | ((with_reducible refine gate_callee (f := 15) rfl ?_);refine goesL_ (some 67) rfl rfl Try.func15 (by kernel_rfl) rfl #[.slice A0 l0.length c0] rfl (by (try simp only [List.map_toArray,List.map_cons,List.map_nil]);first | done | rfl | (simp only [List.length_drop,List.length_take];rfl)) ?_;(with_reducible refine (laws_toShipS.calls kj16 _ _ l0 t130 _ ?side1 ?side2 A37.out).mono ?_);(case side1 => repeat (first | exact (Kd.C_below HR0.out HB.out) | (with_reducible refine Kd.C_alloc ?_ _) | (with_reducible refine Kd.C_drewN ?_ _) | (with_reducible refine Kd.C_drew ?_)));(case side2 => exact HC0.out);rintro e w50 ⟨v131,rfl,ho0,hb⟩;refine ⟨_,rfl,?_⟩;have n0_ := Aside0.mk (Kd.R_elder' (by (with_reducible repeat (first | apply Kd.R_alloc | apply Kd.R_drewN | apply Kd.R_drew));exact HO_10.out) (Kd.R_base ho0) hb);have n1_ := Aside0.mk (Kd.R_below (by (with_reducible repeat (first | apply Kd.R_alloc | apply Kd.R_drewN | apply Kd.R_drew));exact HO_11.out) hb);have n2_ := Aside0.mk (Kd.R_below (by (with_reducible repeat (first | apply Kd.R_alloc | apply Kd.R_drewN | apply Kd.R_drew));exact HO_12.out) hb);have n3_ := Aside0.mk (Kd.S_below (by (with_reducible repeat (first | apply Kd.S_alloc | apply Kd.S_drewN | apply Kd.S_drew));exact HO_13.out) hb);have n4_ := Aside0.mk (Kd.R_lower (Kd.R_new' ho0 (Kd.R_lt (by (with_reducible repeat (first | apply Kd.R_alloc | apply Kd.R_drewN | apply Kd.R_drew));exact HO_10.out))) (below_size (by repeat (first | (with_reducible first | exact HB.out | apply below_alloc | apply pw_below_drewN | apply below_drew1) | exact HB.out))));have n5_ := Aside0.mk (below_step (by repeat (first | (with_reducible first | exact HB.out | apply below_alloc | apply pw_below_drewN | apply below_drew1) | exact HB.out)) hb);clear HO_10;clear HO_11;clear HO_12;clear HO_13;clear HB;have HO_10 := n0_;have HO_11 := n1_;have HO_12 := n2_;have HO_13 := n3_;have HO132 := n4_;have HB := n5_;clear n0_ n1_ n2_ n3_ n4_ n5_;(try clear hb);(try clear hb2);(try clear hk);(try clear hi);(try clear ho0);obtain ⟨Ao51,co51,eo51⟩ := Kd.R_slice HO132.out;subst eo51) | ((with_reducible refine gate_callee (f := 19) rfl ?_);refine goesL_ (some 68) rfl rfl Try.func19 (by kernel_rfl) rfl #[.slice Ao28 t116.length co28,.slice Ao51 t130.length co51] rfl (by (try simp only [List.map_toArray,List.map_cons,List.map_nil]);first | done | rfl | (simp only [List.length_drop,List.length_take];rfl)) ?_;(with_reducible refine (laws_eqShipS.calls kj16 _ _ t116 _ _ t130 true _ ?side1 ?side2 ?side3 ?side4 A38.out).mono ?_);(case side1 => repeat (first | exact (Kd.R_reads' HO_10.out).2.2 | (with_reducible refine Kd.C_alloc ?_ _) | (with_reducible refine Kd.C_drewN ?_ _) | (with_reducible refine Kd.C_drew ?_)));(case side2 => exact (Kd.R_reads' HO_10.out).2.1);(case side3 => repeat (first | exact (Kd.R_reads' HO132.out).2.2 | (with_reducible refine Kd.C_alloc ?_ _) | (with_reducible refine Kd.C_drewN ?_ _) | (with_reducible refine Kd.C_drew ?_)));(case side4 => exact (Kd.R_reads' HO132.out).2.1);rintro e w52 ⟨rfl,hb⟩;refine ⟨_,rfl,?_⟩;have n0_ := Aside0.mk (Kd.R_below (by (with_reducible repeat (first | apply Kd.R_alloc | apply Kd.R_drewN | apply Kd.R_drew));exact HO_10.out) hb);have n1_ := Aside0.mk (Kd.R_below (by (with_reducible repeat (first | apply Kd.R_alloc | apply Kd.R_drewN | apply Kd.R_drew));exact HO_11.out) hb);have n2_ := Aside0.mk (Kd.R_below (by (with_reducible repeat (first | apply Kd.R_alloc | apply Kd.R_drewN | apply Kd.R_drew));exact HO_12.out) hb);have n3_ := Aside0.mk (Kd.S_below (by (with_reducible repeat (first | apply Kd.S_alloc | apply Kd.S_drewN | apply Kd.S_drew));exact HO_13.out) hb);have n4_ := Aside0.mk (Kd.R_below (by (with_reducible repeat (first | apply Kd.R_alloc | apply Kd.R_drewN | apply Kd.R_drew));exact HO132.out) hb);have n5_ := Aside0.mk (below_step (by repeat (first | (with_reducible first | exact HB.out | apply below_alloc | apply pw_below_drewN | apply below_drew1) | exact HB.out)) hb);clear HO_10;clear HO_11;clear HO_12;clear HO_13;clear HO132;clear HB;have HO_10 := n0_;have HO_11 := n1_;have HO_12 := n2_;have HO_13 := n3_;have HO132 := n4_;have HB := n5_;clear n0_ n1_ n2_ n3_ n4_ n5_;(try clear hb);(try clear hb2);(try clear hk);(try clear hi)) | ((with_reducible refine gate_callee (f := 16) rfl ?_);refine goesL_ (some 72) rfl rfl Try.func16 (by kernel_rfl) rfl #[.slice A1 l1.length c1] rfl (by (try simp only [List.map_toArray,List.map_cons,List.map_nil]);first | done | rfl | (simp only [List.length_drop,List.length_take];rfl)) ?_;(with_reducible refine (laws_toHoist.calls kj16 _ _ l1 t134 _ ?side1 ?side2 A40.out).mono ?_);(case side1 => repeat (first | exact (Kd.C_below HR1.out HB.out) | (with_reducible refine Kd.C_alloc ?_ _) | (with_reducible refine Kd.C_drewN ?_ _) | (with_reducible refine Kd.C_drew ?_)));(case side2 => exact HC1.out);rintro e w53 ⟨v135,rfl,ho0,hb⟩;refine ⟨_,rfl,?_⟩;have n0_ := Aside0.mk (Kd.R_below (by (with_reducible repeat (first | apply Kd.R_alloc | apply Kd.R_drewN | apply Kd.R_drew));exact HO_10.out) hb);have n1_ := Aside0.mk (Kd.R_elder' (by (with_reducible repeat (first | apply Kd.R_alloc | apply Kd.R_drewN | apply Kd.R_drew));exact HO_11.out) (Kd.R_base ho0) hb);have n2_ := Aside0.mk (Kd.R_below (by (with_reducible repeat (first | apply Kd.R_alloc | apply Kd.R_drewN | apply Kd.R_drew));exact HO_12.out) hb);have n3_ := Aside0.mk (Kd.S_elder' (by (with_reducible repeat (first | apply Kd.S_alloc | apply Kd.S_drewN | apply Kd.S_drew));exact HO_13.out) (Kd.R_base ho0) hb);have n4_ := Aside0.mk (Kd.R_below (by (with_reducible repeat (first | apply Kd.R_alloc | apply Kd.R_drewN | apply Kd.R_drew));exact HO132.out) hb);have n5_ := Aside0.mk (Kd.R_lower (Kd.R_new' ho0 (Kd.R_lt (by (with_reducible repeat (first | apply Kd.R_alloc | apply Kd.R_drewN | apply Kd.R_drew));exact HO_11.out))) (below_size (by repeat (first | (with_reducible first | exact HB.out | apply below_alloc | apply pw_below_drewN | apply below_drew1) | exact HB.out))));have n6_ := Aside0.mk (below_step (by repeat (first | (with_reducible first | exact HB.out | apply below_alloc | apply pw_below_drewN | apply below_drew1) | exact HB.out)) hb);clear HO_10;clear HO_11;clear HO_12;clear HO_13;clear HO132;clear HB;have HO_10 := n0_;have HO_11 := n1_;have HO_12 := n2_;have HO_13 := n3_;have HO132 := n4_;have HO136 := n5_;have HB := n6_;clear n0_ n1_ n2_ n3_ n4_ n5_ n6_;(try clear hb);(try clear hb2);(try clear hk);(try clear hi);(try clear ho0);obtain ⟨Ao54,co54,eo54⟩ := Kd.R_slice HO136.out;subst eo54) | ((with_reducible refine gate_callee (f := 20) rfl ?_);refine goesL_ (some 73) rfl rfl Try.func20 (by kernel_rfl) rfl #[.slice Ao29 t119.length co29,.slice Ao54 t134.length co54] rfl (by (try simp only [List.map_toArray,List.map_cons,List.map_nil]);first | done | rfl | (simp only [List.length_drop,List.length_take];rfl)) ?_;(with_reducible refine (laws_eqHoist.calls kj16 _ _ t119 _ _ t134 true _ ?side1 ?side2 ?side3 ?side4 A41.out).mono ?_);(case side1 => repeat (first | exact (Kd.R_reads' HO_11.out).2.2 | (with_reducible refine Kd.C_alloc ?_ _) | (with_reducible refine Kd.C_drewN ?_ _) | (with_reducible refine Kd.C_drew ?_)));(case side2 => exact (Kd.R_reads' HO_11.out).2.1);(case side3 => repeat (first | exact (Kd.R_reads' HO136.out).2.2 | (with_reducible refine Kd.C_alloc ?_ _) | (with_reducible refine Kd.C_drewN ?_ _) | (with_reducible refine Kd.C_drew ?_)));(case side4 => exact (Kd.R_reads' HO136.out).2.1);rintro e w' ⟨rfl,⟨nd,rfl⟩⟩;refine ⟨_,rfl,?_⟩) | ((with_reducible refine gate_callee (f := 35) rfl ?_);refine goesL_ (some 77) rfl rfl Try.func35 (by kernel_rfl) rfl #[.slice A2 l2.length c2] rfl (by (try simp only [List.map_toArray,List.map_cons,List.map_nil]);first | done | rfl | (simp only [List.length_drop,List.length_take];rfl)) ?_;(with_reducible refine (laws_toFaultS.calls kj16 _ _ l2 t138 _ ?side1 ?side2 A43.out).mono ?_);(case side1 => repeat (first | exact (Kd.C_below HR2.out (by repeat (first | (with_reducible first | exact HB.out | apply below_alloc | apply pw_below_drewN | apply below_drew1) | exact HB.out))) | (with_reducible refine Kd.C_alloc ?_ _) | (with_reducible refine Kd.C_drewN ?_ _) | (with_reducible refine Kd.C_drew ?_)));(case side2 => exact HC2.out);rintro e w55 ⟨v139,rfl,ho0,hb⟩;refine ⟨_,rfl,?_⟩;have n0_ := Aside0.mk (Kd.R_below (by (with_reducible repeat (first | apply Kd.R_alloc | apply Kd.R_drewN | apply Kd.R_drew));exact HO_10.out) hb);have n1_ := Aside0.mk (Kd.R_below (by (with_reducible repeat (first | apply Kd.R_alloc | apply Kd.R_drewN | apply Kd.R_drew));exact HO_11.out) hb);have n2_ := Aside0.mk (Kd.R_elder' (by (with_reducible repeat (first | apply Kd.R_alloc | apply Kd.R_drewN | apply Kd.R_drew));exact HO_12.out) (Kd.R_base ho0) hb);have n3_ := Aside0.mk (Kd.S_below (by (with_reducible repeat (first | apply Kd.S_alloc | apply Kd.S_drewN | apply Kd.S_drew));exact HO_13.out) hb);have n4_ := Aside0.mk (Kd.R_below (by (with_reducible repeat (first | apply Kd.R_alloc | apply Kd.R_drewN | apply Kd.R_drew));exact HO132.out) hb);have n5_ := Aside0.mk (Kd.R_below (by (with_reducible repeat (first | apply Kd.R_alloc | apply Kd.R_drewN | apply Kd.R_drew));exact HO136.out) hb);have n6_ := Aside0.mk (Kd.R_lower (Kd.R_new' ho0 (Kd.R_lt (by (with_reducible repeat (first | apply Kd.R_alloc | apply Kd.R_drewN | apply Kd.R_drew));exact HO_12.out))) (below_size (by repeat (first | (with_reducible first | exact HB.out | apply below_alloc | apply pw_below_drewN | apply below_drew1) | exact HB.out))));have n7_ := Aside0.mk (below_step (by repeat (first | (with_reducible first | exact HB.out | apply below_alloc | apply pw_below_drewN | apply below_drew1) | exact HB.out)) hb);clear HO_10;clear HO_11;clear HO_12;clear HO_13;clear HO132;clear HO136;clear HB;have HO_10 := n0_;have HO_11 := n1_;have HO_12 := n2_;have HO_13 := n3_;have HO132 := n4_;have HO136 := n5_;have HO140 := n6_;have HB := n7_;clear n0_ n1_ n2_ n3_ n4_ n5_ n6_ n7_;(try clear hb);(try clear hb2);(try clear hk);(try clear hi);(try clear ho0);obtain ⟨Ao56,co56,eo56⟩ := Kd.R_slice HO140.out;subst eo56) | ((with_reducible refine gate_callee (f := 37) rfl ?_);refine goesL_ (some 78) rfl rfl Try.func37 (by kernel_rfl) rfl #[.slice Ao30 t122.length co30,.slice Ao56 t138.length co56] rfl (by (try simp only [List.map_toArray,List.map_cons,List.map_nil]);first | done | rfl | (simp only [List.length_drop,List.length_take];rfl)) ?_;(with_reducible refine (laws_eqFaultS.calls kj16 _ _ t122 _ _ t138 true _ ?side1 ?side2 ?side3 ?side4 A44.out).mono ?_);(case side1 => repeat (first | exact (Kd.R_reads' HO_12.out).2.2 | (with_reducible refine Kd.C_alloc ?_ _) | (with_reducible refine Kd.C_drewN ?_ _) | (with_reducible refine Kd.C_drew ?_)));(case side2 => exact (Kd.R_reads' HO_12.out).2.1);(case side3 => repeat (first | exact (Kd.R_reads' HO140.out).2.2 | (with_reducible refine Kd.C_alloc ?_ _) | (with_reducible refine Kd.C_drewN ?_ _) | (with_reducible refine Kd.C_drew ?_)));(case side4 => exact (Kd.R_reads' HO140.out).2.1);rintro e w57 ⟨rfl,hb⟩;refine ⟨_,rfl,?_⟩;have n0_ := Aside0.mk (Kd.R_below (by (with_reducible repeat (first | apply Kd.R_alloc | apply Kd.R_drewN | apply Kd.R_drew));exact HO_10.out) hb);have n1_ := Aside0.mk (Kd.R_below (by (with_reducible repeat (first | apply Kd.R_alloc | apply Kd.R_drewN | apply Kd.R_drew));exact HO_11.out) hb);have n2_ := Aside0.mk (Kd.R_below (by (with_reducible repeat (first | apply Kd.R_alloc | apply Kd.R_drewN | apply Kd.R_drew));exact HO_12.out) hb);have n3_ := Aside0.mk (Kd.S_below (by (with_reducible repeat (first | apply Kd.S_alloc | apply Kd.S_drewN | apply Kd.S_drew));exact HO_13.out) hb);have n4_ := Aside0.mk (Kd.R_below (by (with_reducible repeat (first | apply Kd.R_alloc | apply Kd.R_drewN | apply Kd.R_drew));exact HO132.out) hb);have n5_ := Aside0.mk (Kd.R_below (by (with_reducible repeat (first | apply Kd.R_alloc | apply Kd.R_drewN | apply Kd.R_drew));exact HO136.out) hb);have n6_ := Aside0.mk (Kd.R_below (by (with_reducible repeat (first | apply Kd.R_alloc | apply Kd.R_drewN | apply Kd.R_drew));exact HO140.out) hb);have n7_ := Aside0.mk (below_step (by repeat (first | (with_reducible first | exact HB.out | apply below_alloc | apply pw_below_drewN | apply below_drew1) | exact HB.out)) hb);clear HO_10;clear HO_11;clear HO_12;clear HO_13;clear HO132;clear HO136;clear HO140;clear HB;have HO_10 := n0_;have HO_11 := n1_;have HO_12 := n2_;have HO_13 := n3_;have HO132 := n4_;have HO136 := n5_;have HO140 := n6_;have HB := n7_;clear n0_ n1_ n2_ n3_ n4_ n5_ n6_ n7_;(try clear hb);(try clear hb2);(try clear hk);(try clear hi)) | ((with_reducible refine gate_callee (f := 44) rfl ?_);refine goesL_ (some 82) rfl rfl Try.func44 (by kernel_rfl) rfl #[.slice Ao28 t116.length co28,.int .i64 1] rfl (by (try simp only [List.map_toArray,List.map_cons,List.map_nil]);first | done | rfl | (simp only [List.length_drop,List.length_take];rfl)) ?_;(with_reducible refine (laws_markShipS.calls kj16 (fun k_ => some k_ = (.slice Ao28 t116.length co28 : Value).ownBlock) (.slice Ao28 t116.length co28) t116 1 t142 t143 w _ ?side1 ?side2 A46.out).mono ?_);(case side1 => repeat (first | (with_reducible first | exact HB.out | apply below_alloc | apply pw_below_drewN | apply below_drew1) | exact HB.out));(case side2 => exact Kd.R_tight rfl HO_10.out);rintro e w58 ⟨rfl,hy0,hb,hkp⟩;refine ⟨_,rfl,?_⟩;have n0_ := Aside0.mk (Kd.R_reok rfl hy0 (fun k_ e_ => HO_10.out.1 k_ e_));have n1_ := Aside0.mk (Kd.R_mono (ok' := fun k_ => some k_ ≠ (.slice Ao54 t134.length co54 : Value).ownBlock) (Kd.R_keptB ((Kd.R_apart' HO_11.out (Kd.R_typed HO_10.out) (by decide))) hkp (fun k_ hk_ hs_ => (hk_.2) hs_)) (fun k_ hk_ => hk_.1.1.2));have n2_ := Aside0.mk (Kd.R_mono (ok' := fun k_ => some k_ ≠ (.slice Ao56 t138.length co56 : Value).ownBlock) (Kd.R_keptB ((Kd.R_apart' HO_12.out (Kd.R_typed HO_10.out) (by decide))) hkp (fun k_ hk_ hs_ => (hk_.2) hs_)) (fun k_ hk_ => hk_.1.1.2));have n3_ := Aside0.mk (Kd.S_mono (ok' := fun k_ => some k_ ≠ (.slice Ao29 t119.length co29 : Value).ownBlock ∧ some k_ ≠ (.slice Ao54 t134.length co54 : Value).ownBlock) (Kd.S_keptB ((Kd.S_apart' HO_13.out (Kd.R_typed HO_10.out) (by decide))) hkp (fun k_ hk_ hs_ => (hk_.2) hs_)) (fun k_ hk_ => ⟨hk_.1.1.1,hk_.1.1.2⟩));have n4_ := Aside0.mk (Kd.R_mono (ok' := fun k_ => some k_ ≠ (.slice Ao28 t116.length co28 : Value).ownBlock) (Kd.R_keptB (HO132.out) hkp (fun k_ hk_ hs_ => (hk_.2) hs_)) (fun k_ hk_ => hk_.1.2));have n5_ := Aside0.mk (Kd.R_mono (ok' := fun k_ => some k_ ≠ (.slice Ao29 t119.length co29 : Value).ownBlock) (Kd.R_keptB ((Kd.R_apart' HO136.out (Kd.R_typed HO_10.out) (by decide))) hkp (fun k_ hk_ hs_ => (hk_.2) hs_)) (fun k_ hk_ => hk_.1.1.2));have n6_ := Aside0.mk (Kd.R_mono (ok' := fun k_ => some k_ ≠ (.slice Ao30 t122.length co30 : Value).ownBlock) (Kd.R_keptB ((Kd.R_apart' HO140.out (Kd.R_typed HO_10.out) (by decide))) hkp (fun k_ hk_ hs_ => (hk_.2) hs_)) (fun k_ hk_ => hk_.1.1.2));have n7_ := Aside0.mk (hb);clear HO_10;clear HO_11;clear HO_12;clear HO_13;clear HO132;clear HO136;clear HO140;clear HB;have HO_10 := n0_;have HO_11 := n1_;have HO_12 := n2_;have HO_13 := n3_;have HO132 := n4_;have HO136 := n5_;have HO140 := n6_;have HB := n7_;clear n0_ n1_ n2_ n3_ n4_ n5_ n6_ n7_;(try clear hb);(try clear hkp);(try clear hy0)) | ((with_reducible refine gate_callee (f := 45) rfl ?_);refine goesL_ (some 85) rfl rfl Try.func45 (by kernel_rfl) rfl #[.slice Ao29 t119.length co29,.int .i64 t142] rfl (by (try simp only [List.map_toArray,List.map_cons,List.map_nil]);first | done | rfl | (simp only [List.length_drop,List.length_take];rfl)) ?_;(with_reducible refine (laws_markHoist.calls kj16 (fun k_ => some k_ = (.slice Ao29 t119.length co29 : Value).ownBlock) (.slice Ao29 t119.length co29) t119 t142 t144 t145 w _ ?side1 ?side2 A47.out).mono ?_);(case side1 => repeat (first | (with_reducible first | exact HB.out | apply below_alloc | apply pw_below_drewN | apply below_drew1) | exact HB.out));(case side2 => exact Kd.R_tight rfl HO_11.out);rintro e w59 ⟨rfl,hy0,hb,hkp⟩;refine ⟨_,rfl,?_⟩;have n0_ := Aside0.mk (Kd.R_mono (ok' := fun k_ => some k_ ≠ (.slice Ao51 t130.length co51 : Value).ownBlock) (Kd.R_keptB ((Kd.R_apart' HO_10.out (Kd.R_typed HO_11.out) (by decide))) hkp (fun k_ hk_ hs_ => (hk_.2) hs_)) (fun k_ hk_ => hk_.1.1.2));have n1_ := Aside0.mk (Kd.R_reok rfl hy0 (fun k_ e_ => HO_11.out.1 k_ e_));have n2_ := Aside0.mk (Kd.R_mono (ok' := fun k_ => some k_ ≠ (.slice Ao56 t138.length co56 : Value).ownBlock) (Kd.R_keptB ((Kd.R_apart' HO_12.out (Kd.R_typed HO_11.out) (by decide))) hkp (fun k_ hk_ hs_ => (hk_.2) hs_)) (fun k_ hk_ => hk_.1.1));have n3_ := Aside0.mk (Kd.S_mono (ok' := fun k_ => some k_ ≠ (.slice Ao29 t119.length co29 : Value).ownBlock ∧ some k_ ≠ (.slice Ao54 t134.length co54 : Value).ownBlock) (Kd.S_keptB (HO_13.out) hkp (fun k_ hk_ hs_ => (hk_.1) hs_)) (fun k_ hk_ => ⟨hk_.1.1,hk_.1.2⟩));have n4_ := Aside0.mk (Kd.R_mono (ok' := fun k_ => some k_ ≠ (.slice Ao28 t116.length co28 : Value).ownBlock) (Kd.R_keptB ((Kd.R_apart' HO132.out (Kd.R_typed HO_11.out) (by decide))) hkp (fun k_ hk_ hs_ => (hk_.2) hs_)) (fun k_ hk_ => hk_.1.1));have n5_ := Aside0.mk (Kd.R_mono (ok' := fun k_ => some k_ ≠ (.slice Ao29 t119.length co29 : Value).ownBlock) (Kd.R_keptB (HO136.out) hkp (fun k_ hk_ hs_ => (hk_) hs_)) (fun k_ hk_ => hk_.1));have n6_ := Aside0.mk (Kd.R_mono (ok' := fun k_ => some k_ ≠ (.slice Ao30 t122.length co30 : Value).ownBlock) (Kd.R_keptB ((Kd.R_apart' HO140.out (Kd.R_typed HO_11.out) (by decide))) hkp (fun k_ hk_ hs_ => (hk_.2) hs_)) (fun k_ hk_ => hk_.1.1));have n7_ := Aside0.mk (hb);clear HO_10;clear HO_11;clear HO_12;clear HO_13;clear HO132;clear HO136;clear HO140;clear HB;have HO_10 := n0_;have HO_11 := n1_;have HO_12 := n2_;have HO_13 := n3_;have HO132 := n4_;have HO136 := n5_;have HO140 := n6_;have HB := n7_;clear n0_ n1_ n2_ n3_ n4_ n5_ n6_ n7_;(try clear hb);(try clear hkp);(try clear hy0)) | ((with_reducible refine gate_callee (f := 46) rfl ?_);refine goesL_ (some 88) rfl rfl Try.func46 (by kernel_rfl) rfl #[.slice Ao30 t122.length co30,.int .i64 t144] rfl (by (try simp only [List.map_toArray,List.map_cons,List.map_nil]);first | done | rfl | (simp only [List.length_drop,List.length_take];rfl)) ?_;(with_reducible refine (laws_markFaultS.calls kj16 (fun k_ => some k_ = (.slice Ao30 t122.length co30 : Value).ownBlock) (.slice Ao30 t122.length co30) t122 t144 t146 t147 w _ ?side1 ?side2 A48.out).mono ?_);(case side1 => repeat (first | (with_reducible first | exact HB.out | apply below_alloc | apply pw_below_drewN | apply below_drew1) | exact HB.out));(case side2 => exact Kd.R_tight rfl HO_12.out);rintro e w60 ⟨rfl,hy0,hb,hkp⟩;refine ⟨_,rfl,?_⟩;have n0_ := Aside0.mk (Kd.R_mono (ok' := fun k_ => some k_ ≠ (.slice Ao51 t130.length co51 : Value).ownBlock) (Kd.R_keptB ((Kd.R_apart' HO_10.out (Kd.R_typed HO_12.out) (by decide))) hkp (fun k_ hk_ hs_ => (hk_.2) hs_)) (fun k_ hk_ => hk_.1.1));have n1_ := Aside0.mk (Kd.R_mono (ok' := fun k_ => some k_ ≠ (.slice Ao54 t134.length co54 : Value).ownBlock) (Kd.R_keptB ((Kd.R_apart' HO_11.out (Kd.R_typed HO_12.out) (by decide))) hkp (fun k_ hk_ hs_ => (hk_.2) hs_)) (fun k_ hk_ => hk_.1.1));have n2_ := Aside0.mk (Kd.R_reok rfl hy0 (fun k_ e_ => HO_12.out.1 k_ e_));have n3_ := Aside0.mk (Kd.S_mono (ok' := fun k_ => some k_ ≠ (.slice Ao29 t119.length co29 : Value).ownBlock ∧ some k_ ≠ (.slice Ao54 t134.length co54 : Value).ownBlock) (Kd.S_keptB ((Kd.S_apart' HO_13.out (Kd.R_typed HO_12.out) (by decide))) hkp (fun k_ hk_ hs_ => (hk_.2) hs_)) (fun k_ hk_ => ⟨hk_.1.1.1,hk_.1.1.2⟩));have n4_ := Aside0.mk (Kd.R_mono (ok' := fun k_ => some k_ ≠ (.slice Ao28 t116.length co28 : Value).ownBlock) (Kd.R_keptB ((Kd.R_apart' HO132.out (Kd.R_typed HO_12.out) (by decide))) hkp (fun k_ hk_ hs_ => (hk_.2) hs_)) (fun k_ hk_ => hk_.1.1));have n5_ := Aside0.mk (Kd.R_mono (ok' := fun k_ => some k_ ≠ (.slice Ao29 t119.length co29 : Value).ownBlock) (Kd.R_keptB ((Kd.R_apart' HO136.out (Kd.R_typed HO_12.out) (by decide))) hkp (fun k_ hk_ hs_ => (hk_.2) hs_)) (fun k_ hk_ => hk_.1.1));have n6_ := Aside0.mk (Kd.R_mono (ok' := fun k_ => some k_ ≠ (.slice Ao30 t122.length co30 : Value).ownBlock) (Kd.R_keptB (HO140.out) hkp (fun k_ hk_ hs_ => (hk_) hs_)) (fun k_ hk_ => hk_.1));have n7_ := Aside0.mk (hb);clear HO_10;clear HO_11;clear HO_12;clear HO_13;clear HO132;clear HO136;clear HO140;clear HB;have HO_10 := n0_;have HO_11 := n1_;have HO_12 := n2_;have HO_13 := n3_;have HO132 := n4_;have HO136 := n5_;have HO140 := n6_;have HB := n7_;clear n0_ n1_ n2_ n3_ n4_ n5_ n6_ n7_;(try clear hb);(try clear hkp);(try clear hy0)))
          (try simp only [Act.put,List.setIfInBounds_toArray,List.set_cons_zero,List.set_cons_succ])
          go_cut [101] (fun v101 wc => ∃ (kq : Nat) (x101_48 : Bool),v101 = .bool x101_48 ∧ Aside0 (laws_FnExactReadByAll.j1 kq l0 l1 l2 t112 t115 t125 x101_48 = some r) ∧ Aside0 (kq ≤ kj16) ∧ Aside0 (Kd.S (Kd.slice 104 (Kd.int .i8)) 31 wc w.heap.size (fun _ => True) v127 t125) ∧ Aside0 (Below w.heap.size w wc))
          case first =>
           have H := HC49.out;clear HC49
           by_cases c61 : t146 < 0
           ·rw [if_pos c61] at H;have c61b0 : decide (t146 < 0) = true := decide_eq_true c61;clear c61;(first | rw [c61b0] | (simp only [i64_w,i32_w];rw [c61b0]) | skip);have H' := Aside0.mk H;clear H
            go_wp2
            go_meet
            case rel => exact ⟨_,(true),(by first | rfl | (simp only [IntKind.wrap_i64,wrap64];done) | (simp;done) | (simp [*];done)),H',⟨by have := HJ16.out;first | omega | exact Nat.le_refl _⟩,⟨by (with_reducible repeat (first | apply Kd.S_alloc | apply Kd.S_drewN | apply Kd.S_drew));exact Kd.S_mono HO_13.out (fun _ hk => trivial)⟩,⟨by repeat (first | (with_reducible first | exact HB.out | apply below_alloc | apply pw_below_drewN | apply below_drew1) | exact HB.out)⟩⟩
           ·rw [if_neg c61] at H;have c61b0 : decide (t146 < 0) = false := decide_eq_false c61;clear c61;(first | rw [c61b0] | (simp only [i64_w,i32_w];rw [c61b0]) | skip);replace H := Option.bind_eq_some_iff.mp H;obtain ⟨t148,A620,H⟩ := H;replace H : (if t148 = true then (laws_FnExactReadByAll.j1 kj16 l0 l1 l2 t112 t115 t125 (t126 != t115)) else (laws_FnExactReadByAll.j1 kj16 l0 l1 l2 t112 t115 t125 true)) = some r := H;have A62 := Aside0.mk A620;clear A620
            by_cases c63 : t148 = true
            ·subst c63
             have H1 : (laws_FnExactReadByAll.j1 kj16 l0 l1 l2 t112 t115 t125 (t126 != t115)) = some r := by rw [if_pos rfl] at H;exact H
             clear H;have H := H1;clear H1;have H' := Aside0.mk H;clear H;obtain ⟨Ao64,co64,eo64⟩ := Kd.S_slice HO_13.out;subst eo64
             go_wp2_with (first | (go_at_call 21;(with_reducible refine (laws_eqHoistS.calls kj16 _ _ t125 _ _ t112 true _ ?side1 ?side2 ?side3 ?side4 A62.out).mono ?_);(case side1 => repeat (first | exact (Kd.S_reads' HO_13.out).2.2 | (with_reducible refine Kd.C_alloc ?_ _) | (with_reducible refine Kd.C_drewN ?_ _) | (with_reducible refine Kd.C_drew ?_)));(case side2 => exact (Kd.S_reads' HO_13.out).2.1);(case side3 => repeat (first | exact (Kd.C_below HR900.out HB.out) | (with_reducible refine Kd.C_alloc ?_ _) | (with_reducible refine Kd.C_drewN ?_ _) | (with_reducible refine Kd.C_drew ?_)));(case side4 => exact HC900.out);rintro e w' ⟨rfl,⟨nd,rfl⟩⟩))
             go_meet
             case rel => exact ⟨_,((t126 != t115)),(by first | rfl | (simp only [IntKind.wrap_i64,wrap64];done) | (simp;done) | (simp [*];done)),H',⟨by have := HJ16.out;first | omega | exact Nat.le_refl _⟩,⟨by (with_reducible repeat (first | apply Kd.S_alloc | apply Kd.S_drewN | apply Kd.S_drew));exact Kd.S_mono HO_13.out (fun _ hk => trivial)⟩,⟨by repeat (first | (with_reducible first | exact HB.out | apply below_alloc | apply pw_below_drewN | apply below_drew1) | exact HB.out)⟩⟩
            ·replace c63 := Bool.eq_false_iff.mpr c63;subst c63
             have H1 : (laws_FnExactReadByAll.j1 kj16 l0 l1 l2 t112 t115 t125 true) = some r := by rw [if_neg (show ¬ (false = true) by decide)] at H;exact H
             clear H;have H := H1;clear H1;have H' := Aside0.mk H;clear H;obtain ⟨Ao65,co65,eo65⟩ := Kd.S_slice HO_13.out;subst eo65
             go_wp2_with (first | (go_at_call 21;(with_reducible refine (laws_eqHoistS.calls kj16 _ _ t125 _ _ t112 false _ ?side1 ?side2 ?side3 ?side4 A62.out).mono ?_);(case side1 => repeat (first | exact (Kd.S_reads' HO_13.out).2.2 | (with_reducible refine Kd.C_alloc ?_ _) | (with_reducible refine Kd.C_drewN ?_ _) | (with_reducible refine Kd.C_drew ?_)));(case side2 => exact (Kd.S_reads' HO_13.out).2.1);(case side3 => repeat (first | exact (Kd.C_below HR900.out HB.out) | (with_reducible refine Kd.C_alloc ?_ _) | (with_reducible refine Kd.C_drewN ?_ _) | (with_reducible refine Kd.C_drew ?_)));(case side4 => exact HC900.out);rintro e w' ⟨rfl,⟨nd,rfl⟩⟩))
             go_meet
             case rel => exact ⟨_,(true),(by first | rfl | (simp only [IntKind.wrap_i64,wrap64];done) | (simp;done) | (simp [*];done)),H',⟨by have := HJ16.out;first | omega | exact Nat.le_refl _⟩,⟨by (with_reducible repeat (first | apply Kd.S_alloc | apply Kd.S_drewN | apply Kd.S_drew));exact Kd.S_mono HO_13.out (fun _ hk => trivial)⟩,⟨by repeat (first | (with_reducible first | exact HB.out | apply below_alloc | apply pw_below_drewN | apply below_drew1) | exact HB.out)⟩⟩
          case rest =>
           clear HC49;(try clear c1);(try clear c2);(try clear p2);(try clear c3);(try clear c4);(try clear c4b0);(try clear c4b1);(try clear c6);(try clear c6b0);(try clear c8);(try clear c8b0);(try clear c9);(try clear c12);(try clear c15);(try clear c16);(try clear c19);(try clear c20);(try clear c21);(try clear c33);(try clear c35);(try clear c36);(try clear c37);(try clear c39);(try clear c42);(try clear c43);(try clear c44);(try clear c45);(try clear c46);(try clear c61);(try clear c61b0);(try clear c63);(try clear p2);obtain ⟨kq,x101_48,rfl,HA,HJ48,HO_13,HB⟩ := hcut
           cases kq with
           | zero => exact absurd HA.out (by simp [laws_FnExactReadByAll.j1])
           | succ kj48 =>
            have H := HA.out;clear HA;simp only [laws_FnExactReadByAll.j1] at H
            by_cases c66 : x101_48 = true
            ·subst c66
             have H1 : (some false) = some r := by rw [if_pos rfl] at H;exact H
             clear H;have H := H1;clear H1;obtain rfl := Option.some.inj H
             go_wp2
             go_ret
             exact ⟨by first | rfl | (simp [errW_none,errW_some,IntKind.wrap_i64,wrap64];done) | (simp [errW_none,errW_some] <;> rfl) | (simp [*,errW_none,errW_some] <;> rfl),by first | exact below_step HBO.out (by repeat (first | (with_reducible first | exact HB.out | apply below_alloc | apply pw_below_drewN | apply below_drew1) | exact HB.out)) | (repeat (first | (with_reducible first | exact HB.out | apply below_alloc | apply pw_below_drewN | apply below_drew1) | exact HB.out))⟩
            ·replace c66 := Bool.eq_false_iff.mpr c66;subst c66
             have H1 : ((laws_markHoistS.f kj48 t125 1).bind fun bt149 => ((laws_heldHoistS.f kj48 bt149.2 1).bind fun t151 => (if t151 < 0 then (some false) else (if t151 = bt149.1 then ((laws_toShipS.f kj48 l0).bind fun t152 => ((laws_toHoist.f kj48 l1).bind fun t155 => ((laws_toFaultS.f kj48 l2).bind fun t158 => ((impl_ReadByAll.f kj48 t152 t155 t158).bind fun bt161 => ((laws_eqHoistS.f kj48 bt161.1 t112).bind fun t165 => (if t165 = true then (laws_FnExactReadByAll.j2 kj48 bt149.2 bt149.1 (bt161.2 != t115)) else (laws_FnExactReadByAll.j2 kj48 bt149.2 bt149.1 true))))))) else (some false))))) = some r := by rw [if_neg (show ¬ (false = true) by decide)] at H;exact H
             clear H;have H := H1;clear H1;replace H := Option.bind_eq_some_iff.mp H;obtain ⟨⟨t149,t150⟩,A670,H⟩ := H;replace H : ((laws_heldHoistS.f kj48 t150 1).bind fun t151 => (if t151 < 0 then (some false) else (if t151 = t149 then ((laws_toShipS.f kj48 l0).bind fun t152 => ((laws_toHoist.f kj48 l1).bind fun t155 => ((laws_toFaultS.f kj48 l2).bind fun t158 => ((impl_ReadByAll.f kj48 t152 t155 t158).bind fun bt161 => ((laws_eqHoistS.f kj48 bt161.1 t112).bind fun t165 => (if t165 = true then (laws_FnExactReadByAll.j2 kj48 t150 t149 (bt161.2 != t115)) else (laws_FnExactReadByAll.j2 kj48 t150 t149 true))))))) else (some false)))) = some r := H;have A67 := Aside0.mk A670;clear A670;replace H := Option.bind_eq_some_iff.mp H;obtain ⟨t151,A680,H⟩ := H;replace H : (if t151 < 0 then (some false) else (if t151 = t149 then ((laws_toShipS.f kj48 l0).bind fun t152 => ((laws_toHoist.f kj48 l1).bind fun t155 => ((laws_toFaultS.f kj48 l2).bind fun t158 => ((impl_ReadByAll.f kj48 t152 t155 t158).bind fun bt161 => ((laws_eqHoistS.f kj48 bt161.1 t112).bind fun t165 => (if t165 = true then (laws_FnExactReadByAll.j2 kj48 t150 t149 (bt161.2 != t115)) else (laws_FnExactReadByAll.j2 kj48 t150 t149 true))))))) else (some false))) = some r := H;have A68 := Aside0.mk A680;clear A680
             by_cases c69 : t151 < 0
             ·rw [if_pos c69] at H;have c69b0 : decide (t151 < 0) = true := decide_eq_true c69;clear c69;obtain rfl := Option.some.inj H;obtain ⟨Ao70,co70,eo70⟩ := Kd.S_slice HO_13.out;subst eo70
              go_wp2_with (first | ((with_reducible refine gate_callee (f := 47) rfl ?_);refine goesL_ (some 104) rfl rfl Try.func47 (by kernel_rfl) rfl #[.slice Ao70 t125.length co70,.int .i64 1] rfl (by (try simp only [List.map_toArray,List.map_cons,List.map_nil]);first | done | rfl | (simp only [List.length_drop,List.length_take];rfl)) ?_;(with_reducible refine (laws_markHoistS.calls kj48 (fun k_ => ∃ q,q ∈ 31 :: ((Kd.slice 104 (Kd.int .i8))).E ∧ ∃ cells,wc.heap[k_]? = some (.cells cells q (0,0))) (.slice Ao70 t125.length co70) t125 1 t149 t150 w _ ?side1 ?side2 A67.out).mono ?_);(case side1 => repeat (first | (with_reducible first | exact HB.out | apply below_alloc | apply pw_below_drewN | apply below_drew1) | exact HB.out));(case side2 => exact Kd.S_mono (Kd.S_bound (HO_13.out)) (fun _ hk_ => hk_.2.2.2));rintro e w71 ⟨rfl,hy0,hb,hkp⟩;refine ⟨_,rfl,?_⟩;have n0_ := Aside0.mk (Kd.S_mono (ok' := fun _ => True) hy0 (fun _ _ => trivial));have n1_ := Aside0.mk (hb);clear HO_13;clear HB;have HO_13 := n0_;have HB := n1_;clear n0_ n1_;(try clear hb);(try clear hkp);(try clear hy0)) | ((with_reducible refine gate_callee (f := 48) rfl ?_);refine goesL_ (some 107) rfl rfl Try.func48 (by kernel_rfl) rfl #[.slice Ao70 t150.length co70,.int .i64 1] rfl (by (try simp only [List.map_toArray,List.map_cons,List.map_nil]);first | done | (rw [show t150.length = t125.length from (Kd.S_reads' HO_13.out).1.symm] <;> rfl) | rfl | (simp only [List.length_drop,List.length_take];rfl)) ?_;(with_reducible refine (laws_heldHoistS.calls kj48 _ _ t150 1 t151 _ ?side1 ?side2 A68.out).mono ?_);(case side1 => repeat (first | exact (Kd.S_reads' HO_13.out).2.2 | (with_reducible refine Kd.C_alloc ?_ _) | (with_reducible refine Kd.C_drewN ?_ _) | (with_reducible refine Kd.C_drew ?_)));(case side2 => rw [show t150.length = t125.length from (Kd.S_reads' HO_13.out).1.symm];exact (Kd.S_reads' HO_13.out).2.1);rintro e w' ⟨rfl,⟨nd,rfl⟩⟩;refine ⟨_,rfl,?_⟩))
              go_ret
              exact ⟨by first | rfl | (simp [errW_none,errW_some,IntKind.wrap_i64,wrap64];done) | (simp [errW_none,errW_some] <;> rfl) | (simp [*,errW_none,errW_some] <;> rfl),by first | exact below_step HBO.out (by repeat (first | (with_reducible first | exact HB.out | apply below_alloc | apply pw_below_drewN | apply below_drew1) | exact HB.out)) | (repeat (first | (with_reducible first | exact HB.out | apply below_alloc | apply pw_below_drewN | apply below_drew1) | exact HB.out))⟩
             ·rw [if_neg c69] at H;have c69b0 : decide (t151 < 0) = false := decide_eq_false c69;clear c69
              by_cases c72 : t151 = t149
              ·rw [if_pos c72] at H;have c72b0 : (t151 == t149) = true := beq_iff_eq.mpr c72;have c72b1 : (t151 != t149) = false := bne_eq_false_iff_eq.mpr c72;clear c72;replace H := Option.bind_eq_some_iff.mp H;obtain ⟨t152,A730,H⟩ := H;replace H : ((laws_toHoist.f kj48 l1).bind fun t155 => ((laws_toFaultS.f kj48 l2).bind fun t158 => ((impl_ReadByAll.f kj48 t152 t155 t158).bind fun bt161 => ((laws_eqHoistS.f kj48 bt161.1 t112).bind fun t165 => (if t165 = true then (laws_FnExactReadByAll.j2 kj48 t150 t149 (bt161.2 != t115)) else (laws_FnExactReadByAll.j2 kj48 t150 t149 true)))))) = some r := H;have A73 := Aside0.mk A730;clear A730;replace H := Option.bind_eq_some_iff.mp H;obtain ⟨t155,A740,H⟩ := H;replace H : ((laws_toFaultS.f kj48 l2).bind fun t158 => ((impl_ReadByAll.f kj48 t152 t155 t158).bind fun bt161 => ((laws_eqHoistS.f kj48 bt161.1 t112).bind fun t165 => (if t165 = true then (laws_FnExactReadByAll.j2 kj48 t150 t149 (bt161.2 != t115)) else (laws_FnExactReadByAll.j2 kj48 t150 t149 true))))) = some r := H;have A74 := Aside0.mk A740;clear A740;replace H := Option.bind_eq_some_iff.mp H;obtain ⟨t158,A750,H⟩ := H;replace H : ((impl_ReadByAll.f kj48 t152 t155 t158).bind fun bt161 => ((laws_eqHoistS.f kj48 bt161.1 t112).bind fun t165 => (if t165 = true then (laws_FnExactReadByAll.j2 kj48 t150 t149 (bt161.2 != t115)) else (laws_FnExactReadByAll.j2 kj48 t150 t149 true)))) = some r := H;have A75 := Aside0.mk A750;clear A750;replace H := Option.bind_eq_some_iff.mp H;obtain ⟨⟨t161,t162⟩,A760,H⟩ := H;replace H : ((laws_eqHoistS.f kj48 t161 t112).bind fun t165 => (if t165 = true then (laws_FnExactReadByAll.j2 kj48 t150 t149 (t162 != t115)) else (laws_FnExactReadByAll.j2 kj48 t150 t149 true))) = some r := H;have A76 := Aside0.mk A760;clear A760;have HC77 := Aside0.mk H;clear H;obtain ⟨Ao78,co78,eo78⟩ := Kd.S_slice HO_13.out;subst eo78
               go_upto_region 38 with (first | ((with_reducible refine gate_callee (f := 47) rfl ?_);refine goesL_ (some 104) rfl rfl Try.func47 (by kernel_rfl) rfl #[.slice Ao78 t125.length co78,.int .i64 1] rfl (by (try simp only [List.map_toArray,List.map_cons,List.map_nil]);first | done | rfl | (simp only [List.length_drop,List.length_take];rfl)) ?_;(with_reducible refine (laws_markHoistS.calls kj48 (fun k_ => ∃ q,q ∈ 31 :: ((Kd.slice 104 (Kd.int .i8))).E ∧ ∃ cells,wc.heap[k_]? = some (.cells cells q (0,0))) (.slice Ao78 t125.length co78) t125 1 t149 t150 w _ ?side1 ?side2 A67.out).mono ?_);(case side1 => repeat (first | (with_reducible first | exact HB.out | apply below_alloc | apply pw_below_drewN | apply below_drew1) | exact HB.out));(case side2 => exact Kd.S_mono (Kd.S_bound (HO_13.out)) (fun _ hk_ => hk_.2.2.2));rintro e w79 ⟨rfl,hy0,hb,hkp⟩;refine ⟨_,rfl,?_⟩;have n0_ := Aside0.mk (Kd.S_mono (ok' := fun _ => True) hy0 (fun _ _ => trivial));have n1_ := Aside0.mk (hb);clear HO_13;clear HB;have HO_13 := n0_;have HB := n1_;clear n0_ n1_;(try clear hb);(try clear hkp);(try clear hy0)) | ((with_reducible refine gate_callee (f := 48) rfl ?_);refine goesL_ (some 107) rfl rfl Try.func48 (by kernel_rfl) rfl #[.slice Ao78 t150.length co78,.int .i64 1] rfl (by (try simp only [List.map_toArray,List.map_cons,List.map_nil]);first | done | (rw [show t150.length = t125.length from (Kd.S_reads' HO_13.out).1.symm] <;> rfl) | rfl | (simp only [List.length_drop,List.length_take];rfl)) ?_;(with_reducible refine (laws_heldHoistS.calls kj48 _ _ t150 1 t151 _ ?side1 ?side2 A68.out).mono ?_);(case side1 => repeat (first | exact (Kd.S_reads' HO_13.out).2.2 | (with_reducible refine Kd.C_alloc ?_ _) | (with_reducible refine Kd.C_drewN ?_ _) | (with_reducible refine Kd.C_drew ?_)));(case side2 => rw [show t150.length = t125.length from (Kd.S_reads' HO_13.out).1.symm];exact (Kd.S_reads' HO_13.out).2.1);rintro e w' ⟨rfl,⟨nd,rfl⟩⟩;refine ⟨_,rfl,?_⟩) | ((with_reducible refine gate_callee (f := 15) rfl ?_);refine goesL_ (some 115) rfl rfl Try.func15 (by kernel_rfl) rfl #[.slice A0 l0.length c0] rfl (by (try simp only [List.map_toArray,List.map_cons,List.map_nil]);first | done | rfl | (simp only [List.length_drop,List.length_take];rfl)) ?_;(with_reducible refine (laws_toShipS.calls kj48 _ _ l0 t152 _ ?side1 ?side2 A73.out).mono ?_);(case side1 => repeat (first | exact (Kd.C_below HR0.out (by repeat (first | (with_reducible first | exact HB.out | apply below_alloc | apply pw_below_drewN | apply below_drew1) | exact HB.out))) | (with_reducible refine Kd.C_alloc ?_ _) | (with_reducible refine Kd.C_drewN ?_ _) | (with_reducible refine Kd.C_drew ?_)));(case side2 => exact HC0.out);rintro e w80 ⟨v153,rfl,ho0,hb⟩;refine ⟨_,rfl,?_⟩;have n0_ := Aside0.mk (Kd.S_below (by (with_reducible repeat (first | apply Kd.S_alloc | apply Kd.S_drewN | apply Kd.S_drew));exact HO_13.out) hb);have n1_ := Aside0.mk (Kd.R_lower ho0 (below_size (by repeat (first | (with_reducible first | exact HB.out | apply below_alloc | apply pw_below_drewN | apply below_drew1) | exact HB.out))));have n2_ := Aside0.mk (below_step (by repeat (first | (with_reducible first | exact HB.out | apply below_alloc | apply pw_below_drewN | apply below_drew1) | exact HB.out)) hb);clear HO_13;clear HB;have HO_13 := n0_;have HO154 := n1_;have HB := n2_;clear n0_ n1_ n2_;(try clear hb);(try clear hb2);(try clear hk);(try clear hi);(try clear ho0)) | ((with_reducible refine gate_callee (f := 16) rfl ?_);refine goesL_ (some 117) rfl rfl Try.func16 (by kernel_rfl) rfl #[.slice A1 l1.length c1] rfl (by (try simp only [List.map_toArray,List.map_cons,List.map_nil]);first | done | rfl | (simp only [List.length_drop,List.length_take];rfl)) ?_;(with_reducible refine (laws_toHoist.calls kj48 _ _ l1 t155 _ ?side1 ?side2 A74.out).mono ?_);(case side1 => repeat (first | exact (Kd.C_below HR1.out HB.out) | (with_reducible refine Kd.C_alloc ?_ _) | (with_reducible refine Kd.C_drewN ?_ _) | (with_reducible refine Kd.C_drew ?_)));(case side2 => exact HC1.out);rintro e w81 ⟨v156,rfl,ho0,hb⟩;refine ⟨_,rfl,?_⟩;have n0_ := Aside0.mk (Kd.S_elder' (by (with_reducible repeat (first | apply Kd.S_alloc | apply Kd.S_drewN | apply Kd.S_drew));exact HO_13.out) (Kd.R_base ho0) hb);have n1_ := Aside0.mk (Kd.R_below (by (with_reducible repeat (first | apply Kd.R_alloc | apply Kd.R_drewN | apply Kd.R_drew));exact HO154.out) hb);have n2_ := Aside0.mk (Kd.R_lower ho0 (below_size (by repeat (first | (with_reducible first | exact HB.out | apply below_alloc | apply pw_below_drewN | apply below_drew1) | exact HB.out))));have n3_ := Aside0.mk (below_step (by repeat (first | (with_reducible first | exact HB.out | apply below_alloc | apply pw_below_drewN | apply below_drew1) | exact HB.out)) hb);clear HO_13;clear HO154;clear HB;have HO_13 := n0_;have HO154 := n1_;have HO157 := n2_;have HB := n3_;clear n0_ n1_ n2_ n3_;(try clear hb);(try clear hb2);(try clear hk);(try clear hi);(try clear ho0)) | ((with_reducible refine gate_callee (f := 35) rfl ?_);refine goesL_ (some 119) rfl rfl Try.func35 (by kernel_rfl) rfl #[.slice A2 l2.length c2] rfl (by (try simp only [List.map_toArray,List.map_cons,List.map_nil]);first | done | rfl | (simp only [List.length_drop,List.length_take];rfl)) ?_;(with_reducible refine (laws_toFaultS.calls kj48 _ _ l2 t158 _ ?side1 ?side2 A75.out).mono ?_);(case side1 => repeat (first | exact (Kd.C_below HR2.out HB.out) | (with_reducible refine Kd.C_alloc ?_ _) | (with_reducible refine Kd.C_drewN ?_ _) | (with_reducible refine Kd.C_drew ?_)));(case side2 => exact HC2.out);rintro e w82 ⟨v159,rfl,ho0,hb⟩;refine ⟨_,rfl,?_⟩;have n0_ := Aside0.mk (Kd.S_below (by (with_reducible repeat (first | apply Kd.S_alloc | apply Kd.S_drewN | apply Kd.S_drew));exact HO_13.out) hb);have n1_ := Aside0.mk (Kd.R_below (by (with_reducible repeat (first | apply Kd.R_alloc | apply Kd.R_drewN | apply Kd.R_drew));exact HO154.out) hb);have n2_ := Aside0.mk (Kd.R_below (by (with_reducible repeat (first | apply Kd.R_alloc | apply Kd.R_drewN | apply Kd.R_drew));exact HO157.out) hb);have n3_ := Aside0.mk (Kd.R_lower ho0 (below_size (by repeat (first | (with_reducible first | exact HB.out | apply below_alloc | apply pw_below_drewN | apply below_drew1) | exact HB.out))));have n4_ := Aside0.mk (below_step (by repeat (first | (with_reducible first | exact HB.out | apply below_alloc | apply pw_below_drewN | apply below_drew1) | exact HB.out)) hb);clear HO_13;clear HO154;clear HO157;clear HB;have HO_13 := n0_;have HO154 := n1_;have HO157 := n2_;have HO160 := n3_;have HB := n4_;clear n0_ n1_ n2_ n3_ n4_;(try clear hb);(try clear hb2);(try clear hk);(try clear hi);(try clear ho0);obtain ⟨Ao83,co83,eo83⟩ := Kd.R_slice HO154.out;subst eo83;obtain ⟨Ao84,co84,eo84⟩ := Kd.R_slice HO157.out;subst eo84;obtain ⟨Ao85,co85,eo85⟩ := Kd.R_slice HO160.out;subst eo85) | ((with_reducible refine gate_callee (f := 43) rfl ?_);refine goesL_ (some 120) rfl rfl Try.func43 (by kernel_rfl) rfl #[.slice Ao83 t152.length co83,.slice Ao84 t155.length co84,.slice Ao85 t158.length co85] rfl (by (try simp only [List.map_toArray,List.map_cons,List.map_nil]);first | done | rfl | (simp only [List.length_drop,List.length_take];rfl)) ?_;(with_reducible refine (impl_ReadByAll.calls kj48 _ _ t152 _ _ t155 _ _ t158 t161 t162 _ ?side1 ?side2 ?side3 ?side4 ?side5 ?side6 A76.out).mono ?_);(case side1 => repeat (first | exact (Kd.R_reads' HO154.out).2.2 | (with_reducible refine Kd.C_alloc ?_ _) | (with_reducible refine Kd.C_drewN ?_ _) | (with_reducible refine Kd.C_drew ?_)));(case side2 => exact (Kd.R_reads' HO154.out).2.1);(case side3 => repeat (first | exact (Kd.R_reads' HO157.out).2.2 | (with_reducible refine Kd.C_alloc ?_ _) | (with_reducible refine Kd.C_drewN ?_ _) | (with_reducible refine Kd.C_drew ?_)));(case side4 => exact (Kd.R_reads' HO157.out).2.1);(case side5 => repeat (first | exact (Kd.R_reads' HO160.out).2.2 | (with_reducible refine Kd.C_alloc ?_ _) | (with_reducible refine Kd.C_drewN ?_ _) | (with_reducible refine Kd.C_drew ?_)));(case side6 => exact (Kd.R_reads' HO160.out).2.1);rintro e w86 ⟨v163,rfl,ho0,hb⟩;refine ⟨_,rfl,?_⟩;have n0_ := Aside0.mk (Kd.S_elder' (by (with_reducible repeat (first | apply Kd.S_alloc | apply Kd.S_drewN | apply Kd.S_drew));exact HO_13.out) (Kd.S_base ho0) hb);have n1_ := Aside0.mk (Kd.R_below (by (with_reducible repeat (first | apply Kd.R_alloc | apply Kd.R_drewN | apply Kd.R_drew));exact HO154.out) hb);have n2_ := Aside0.mk (Kd.R_below (by (with_reducible repeat (first | apply Kd.R_alloc | apply Kd.R_drewN | apply Kd.R_drew));exact HO157.out) hb);have n3_ := Aside0.mk (Kd.R_below (by (with_reducible repeat (first | apply Kd.R_alloc | apply Kd.R_drewN | apply Kd.R_drew));exact HO160.out) hb);have n4_ := Aside0.mk (Kd.S_lower (Kd.S_new' (Kd.S_new' ho0 (Kd.S_lt (by (with_reducible repeat (first | apply Kd.S_alloc | apply Kd.S_drewN | apply Kd.S_drew));exact HO_13.out))) (Kd.R_lt (by (with_reducible repeat (first | apply Kd.R_alloc | apply Kd.R_drewN | apply Kd.R_drew));exact HO157.out))) (below_size (by repeat (first | (with_reducible first | exact HB.out | apply below_alloc | apply pw_below_drewN | apply below_drew1) | exact HB.out))));have n5_ := Aside0.mk (below_step (by repeat (first | (with_reducible first | exact HB.out | apply below_alloc | apply pw_below_drewN | apply below_drew1) | exact HB.out)) hb);clear HO_13;clear HO154;clear HO157;clear HO160;clear HB;have HO_13 := n0_;have HO154 := n1_;have HO157 := n2_;have HO160 := n3_;have HO164 := n4_;have HB := n5_;clear n0_ n1_ n2_ n3_ n4_ n5_;(try clear hb);(try clear hb2);(try clear hk);(try clear hi);(try clear ho0)))
               (try simp only [Act.put,List.setIfInBounds_toArray,List.set_cons_zero,List.set_cons_succ])
               go_cut [131] (fun v131 wc => ∃ (kq : Nat) (x131_76 : Bool),v131 = .bool x131_76 ∧ Aside0 (laws_FnExactReadByAll.j2 kq t150 t149 x131_76 = some r) ∧ Aside0 (kq ≤ kj48) ∧ Aside0 (Kd.S (Kd.slice 104 (Kd.int .i8)) 31 wc w.heap.size (fun _ => True) (.slice Ao78 t125.length co78) t150) ∧ Aside0 (Below w.heap.size w wc))
               case first =>
                have H := HC77.out;clear HC77;replace H := Option.bind_eq_some_iff.mp H;obtain ⟨t165,A870,H⟩ := H;replace H : (if t165 = true then (laws_FnExactReadByAll.j2 kj48 t150 t149 (t162 != t115)) else (laws_FnExactReadByAll.j2 kj48 t150 t149 true)) = some r := H;have A87 := Aside0.mk A870;clear A870
                by_cases c88 : t165 = true
                ·subst c88
                 have H1 : (laws_FnExactReadByAll.j2 kj48 t150 t149 (t162 != t115)) = some r := by rw [if_pos rfl] at H;exact H
                 clear H;have H := H1;clear H1;have H' := Aside0.mk H;clear H;obtain ⟨Ao89,co89,eo89⟩ := Kd.S_slice HO164.out;subst eo89
                 go_wp2_with (first | ((with_reducible refine gate_callee (f := 21) rfl ?_);refine goesL_ (some 125) rfl rfl Try.func21 (by kernel_rfl) rfl #[.slice Ao89 t161.length co89,.slice A900 t112.length c900] rfl (by (try simp only [List.map_toArray,List.map_cons,List.map_nil]);first | done | rfl | (simp only [List.length_drop,List.length_take];rfl)) ?_;(with_reducible refine (laws_eqHoistS.calls kj48 _ _ t161 _ _ t112 true _ ?side1 ?side2 ?side3 ?side4 A87.out).mono ?_);(case side1 => repeat (first | exact (Kd.S_reads' HO164.out).2.2 | (with_reducible refine Kd.C_alloc ?_ _) | (with_reducible refine Kd.C_drewN ?_ _) | (with_reducible refine Kd.C_drew ?_)));(case side2 => exact (Kd.S_reads' HO164.out).2.1);(case side3 => repeat (first | exact (Kd.C_below HR900.out HB.out) | (with_reducible refine Kd.C_alloc ?_ _) | (with_reducible refine Kd.C_drewN ?_ _) | (with_reducible refine Kd.C_drew ?_)));(case side4 => exact HC900.out);rintro e w' ⟨rfl,⟨nd,rfl⟩⟩;refine ⟨_,rfl,?_⟩))
                 go_meet
                 case rel => exact ⟨_,((t162 != t115)),(by first | rfl | (simp only [IntKind.wrap_i64,wrap64];done) | (simp;done) | (simp [*];done)),H',⟨by have := HJ16.out;have := HJ48.out;first | omega | exact Nat.le_refl _⟩,⟨by (with_reducible repeat (first | apply Kd.S_alloc | apply Kd.S_drewN | apply Kd.S_drew));exact Kd.S_mono HO_13.out (fun _ hk => trivial)⟩,⟨by repeat (first | (with_reducible first | exact HB.out | apply below_alloc | apply pw_below_drewN | apply below_drew1) | exact HB.out)⟩⟩
                ·replace c88 := Bool.eq_false_iff.mpr c88;subst c88
                 have H1 : (laws_FnExactReadByAll.j2 kj48 t150 t149 true) = some r := by rw [if_neg (show ¬ (false = true) by decide)] at H;exact H
                 clear H;have H := H1;clear H1;have H' := Aside0.mk H;clear H;obtain ⟨Ao90,co90,eo90⟩ := Kd.S_slice HO164.out;subst eo90
                 go_wp2_with (first | ((with_reducible refine gate_callee (f := 21) rfl ?_);refine goesL_ (some 125) rfl rfl Try.func21 (by kernel_rfl) rfl #[.slice Ao90 t161.length co90,.slice A900 t112.length c900] rfl (by (try simp only [List.map_toArray,List.map_cons,List.map_nil]);first | done | rfl | (simp only [List.length_drop,List.length_take];rfl)) ?_;(with_reducible refine (laws_eqHoistS.calls kj48 _ _ t161 _ _ t112 false _ ?side1 ?side2 ?side3 ?side4 A87.out).mono ?_);(case side1 => repeat (first | exact (Kd.S_reads' HO164.out).2.2 | (with_reducible refine Kd.C_alloc ?_ _) | (with_reducible refine Kd.C_drewN ?_ _) | (with_reducible refine Kd.C_drew ?_)));(case side2 => exact (Kd.S_reads' HO164.out).2.1);(case side3 => repeat (first | exact (Kd.C_below HR900.out HB.out) | (with_reducible refine Kd.C_alloc ?_ _) | (with_reducible refine Kd.C_drewN ?_ _) | (with_reducible refine Kd.C_drew ?_)));(case side4 => exact HC900.out);rintro e w' ⟨rfl,⟨nd,rfl⟩⟩;refine ⟨_,rfl,?_⟩))
                 go_meet
                 case rel => exact ⟨_,(true),(by first | rfl | (simp only [IntKind.wrap_i64,wrap64];done) | (simp;done) | (simp [*];done)),H',⟨by have := HJ16.out;have := HJ48.out;first | omega | exact Nat.le_refl _⟩,⟨by (with_reducible repeat (first | apply Kd.S_alloc | apply Kd.S_drewN | apply Kd.S_drew));exact Kd.S_mono HO_13.out (fun _ hk => trivial)⟩,⟨by repeat (first | (with_reducible first | exact HB.out | apply below_alloc | apply pw_below_drewN | apply below_drew1) | exact HB.out)⟩⟩
               case rest =>
                clear HC77;(try clear c1);(try clear c2);(try clear p2);(try clear c3);(try clear c4);(try clear c4b0);(try clear c4b1);(try clear c6);(try clear c6b0);(try clear c7);(try clear c8);(try clear c8b0);(try clear c9);(try clear c12);(try clear c15);(try clear c16);(try clear c19);(try clear c20);(try clear c21);(try clear c33);(try clear c35);(try clear c36);(try clear c37);(try clear c39);(try clear c42);(try clear c43);(try clear c44);(try clear c45);(try clear c46);(try clear c47);(try clear c48);(try clear c61);(try clear c61b0);(try clear c63);(try clear c66);(try clear c69);(try clear c69b0);(try clear c72);(try clear c72b0);(try clear c72b1);(try clear c88);(try clear c90);(try clear p2);obtain ⟨kq,x131_76,rfl,HA,HJ76,HO_13,HB⟩ := hcut;have hl13_76 := (Kd.S_reads' HO_13.out).1;rw [hl13_76] at HO_13;(try simp only [hl13_76])
                cases kq with
                | zero => exact absurd HA.out (by simp [laws_FnExactReadByAll.j2])
                | succ kj76 =>
                 have H := HA.out;clear HA;simp only [laws_FnExactReadByAll.j2] at H
                 by_cases c91 : x131_76 = true
                 ·subst c91
                  have H1 : (some false) = some r := by rw [if_pos rfl] at H;exact H
                  clear H;have H := H1;clear H1;obtain rfl := Option.some.inj H
                  go_wp2
                  go_ret
                  exact ⟨by first | rfl | (simp [errW_none,errW_some,IntKind.wrap_i64,wrap64];done) | (simp [errW_none,errW_some] <;> rfl) | (simp [*,errW_none,errW_some] <;> rfl),by first | exact below_step HBO.out (by repeat (first | (with_reducible first | exact HB.out | apply below_alloc | apply pw_below_drewN | apply below_drew1) | exact HB.out)) | (repeat (first | (with_reducible first | exact HB.out | apply below_alloc | apply pw_below_drewN | apply below_drew1) | exact HB.out))⟩
                 ·replace c91 := Bool.eq_false_iff.mpr c91;subst c91
                  have H1 : ((laws_heldHoistS.f kj76 t150 1).bind fun t166 => (if t166 < 0 then (some false) else (if t166 = t149 then (some true) else (some false)))) = some r := by rw [if_neg (show ¬ (false = true) by decide)] at H;exact H
                  clear H;have H := H1;clear H1;replace H := Option.bind_eq_some_iff.mp H;obtain ⟨t166,A920,H⟩ := H;replace H : (if t166 < 0 then (some false) else (if t166 = t149 then (some true) else (some false))) = some r := H;have A92 := Aside0.mk A920;clear A920
                  by_cases c93 : t166 < 0
                  ·rw [if_pos c93] at H;have c93b0 : decide (t166 < 0) = true := decide_eq_true c93;clear c93;obtain rfl := Option.some.inj H
                   go_wp2_with (first | ((with_reducible refine gate_callee (f := 48) rfl ?_);refine goesL_ (some 134) rfl rfl Try.func48 (by kernel_rfl) rfl #[.slice Ao78 t150.length co78,.int .i64 1] rfl (by (try simp only [List.map_toArray,List.map_cons,List.map_nil]);first | done | rfl | (simp only [List.length_drop,List.length_take];rfl)) ?_;(with_reducible refine (laws_heldHoistS.calls kj76 _ _ t150 1 t166 _ ?side1 ?side2 A92.out).mono ?_);(case side1 => repeat (first | exact (Kd.S_reads' HO_13.out).2.2 | (with_reducible refine Kd.C_alloc ?_ _) | (with_reducible refine Kd.C_drewN ?_ _) | (with_reducible refine Kd.C_drew ?_)));(case side2 => exact (Kd.S_reads' HO_13.out).2.1);rintro e w' ⟨rfl,⟨nd,rfl⟩⟩;refine ⟨_,rfl,?_⟩))
                   go_ret
                   exact ⟨by first | rfl | (simp [errW_none,errW_some,IntKind.wrap_i64,wrap64];done) | (simp [errW_none,errW_some] <;> rfl) | (simp [*,errW_none,errW_some] <;> rfl),by first | exact below_step HBO.out (by repeat (first | (with_reducible first | exact HB.out | apply below_alloc | apply pw_below_drewN | apply below_drew1) | exact HB.out)) | (repeat (first | (with_reducible first | exact HB.out | apply below_alloc | apply pw_below_drewN | apply below_drew1) | exact HB.out))⟩
                  ·rw [if_neg c93] at H;have c93b0 : decide (t166 < 0) = false := decide_eq_false c93;clear c93
                   by_cases c94 : t166 = t149
                   ·rw [if_pos c94] at H;have c94b0 : (t166 == t149) = true := beq_iff_eq.mpr c94;have c94b1 : (t166 != t149) = false := bne_eq_false_iff_eq.mpr c94;clear c94;obtain rfl := Option.some.inj H
                    go_wp2_with (first | ((with_reducible refine gate_callee (f := 48) rfl ?_);refine goesL_ (some 134) rfl rfl Try.func48 (by kernel_rfl) rfl #[.slice Ao78 t150.length co78,.int .i64 1] rfl (by (try simp only [List.map_toArray,List.map_cons,List.map_nil]);first | done | rfl | (simp only [List.length_drop,List.length_take];rfl)) ?_;(with_reducible refine (laws_heldHoistS.calls kj76 _ _ t150 1 t166 _ ?side1 ?side2 A92.out).mono ?_);(case side1 => repeat (first | exact (Kd.S_reads' HO_13.out).2.2 | (with_reducible refine Kd.C_alloc ?_ _) | (with_reducible refine Kd.C_drewN ?_ _) | (with_reducible refine Kd.C_drew ?_)));(case side2 => exact (Kd.S_reads' HO_13.out).2.1);rintro e w' ⟨rfl,⟨nd,rfl⟩⟩;refine ⟨_,rfl,?_⟩))
                    go_ret
                    exact ⟨by first | rfl | (simp [errW_none,errW_some,IntKind.wrap_i64,wrap64];done) | (simp [errW_none,errW_some] <;> rfl) | (simp [*,errW_none,errW_some] <;> rfl),by first | exact below_step HBO.out (by repeat (first | (with_reducible first | exact HB.out | apply below_alloc | apply pw_below_drewN | apply below_drew1) | exact HB.out)) | (repeat (first | (with_reducible first | exact HB.out | apply below_alloc | apply pw_below_drewN | apply below_drew1) | exact HB.out))⟩
                   ·rw [if_neg c94] at H;have c94b0 : (t166 == t149) = false := beq_eq_false_iff_ne.mpr c94;have c94b1 : (t166 != t149) = true := bne_iff_ne.mpr c94;obtain rfl := Option.some.inj H
                    go_wp2_with (first | ((with_reducible refine gate_callee (f := 48) rfl ?_);refine goesL_ (some 134) rfl rfl Try.func48 (by kernel_rfl) rfl #[.slice Ao78 t150.length co78,.int .i64 1] rfl (by (try simp only [List.map_toArray,List.map_cons,List.map_nil]);first | done | rfl | (simp only [List.length_drop,List.length_take];rfl)) ?_;(with_reducible refine (laws_heldHoistS.calls kj76 _ _ t150 1 t166 _ ?side1 ?side2 A92.out).mono ?_);(case side1 => repeat (first | exact (Kd.S_reads' HO_13.out).2.2 | (with_reducible refine Kd.C_alloc ?_ _) | (with_reducible refine Kd.C_drewN ?_ _) | (with_reducible refine Kd.C_drew ?_)));(case side2 => exact (Kd.S_reads' HO_13.out).2.1);rintro e w' ⟨rfl,⟨nd,rfl⟩⟩;refine ⟨_,rfl,?_⟩))
                    go_ret
                    exact ⟨by first | rfl | (simp [errW_none,errW_some,IntKind.wrap_i64,wrap64];done) | (simp [errW_none,errW_some] <;> rfl) | (simp [*,errW_none,errW_some] <;> rfl),by first | exact below_step HBO.out (by repeat (first | (with_reducible first | exact HB.out | apply below_alloc | apply pw_below_drewN | apply below_drew1) | exact HB.out)) | (repeat (first | (with_reducible first | exact HB.out | apply below_alloc | apply pw_below_drewN | apply below_drew1) | exact HB.out))⟩
              ·rw [if_neg c72] at H;have c72b0 : (t151 == t149) = false := beq_eq_false_iff_ne.mpr c72;have c72b1 : (t151 != t149) = true := bne_iff_ne.mpr c72;obtain rfl := Option.some.inj H;obtain ⟨Ao95,co95,eo95⟩ := Kd.S_slice HO_13.out;subst eo95
               go_wp2_with (first | ((with_reducible refine gate_callee (f := 47) rfl ?_);refine goesL_ (some 104) rfl rfl Try.func47 (by kernel_rfl) rfl #[.slice Ao95 t125.length co95,.int .i64 1] rfl (by (try simp only [List.map_toArray,List.map_cons,List.map_nil]);first | done | rfl | (simp only [List.length_drop,List.length_take];rfl)) ?_;(with_reducible refine (laws_markHoistS.calls kj48 (fun k_ => ∃ q,q ∈ 31 :: ((Kd.slice 104 (Kd.int .i8))).E ∧ ∃ cells,wc.heap[k_]? = some (.cells cells q (0,0))) (.slice Ao95 t125.length co95) t125 1 t149 t150 w _ ?side1 ?side2 A67.out).mono ?_);(case side1 => repeat (first | (with_reducible first | exact HB.out | apply below_alloc | apply pw_below_drewN | apply below_drew1) | exact HB.out));(case side2 => exact Kd.S_mono (Kd.S_bound (HO_13.out)) (fun _ hk_ => hk_.2.2.2));rintro e w96 ⟨rfl,hy0,hb,hkp⟩;refine ⟨_,rfl,?_⟩;have n0_ := Aside0.mk (Kd.S_mono (ok' := fun _ => True) hy0 (fun _ _ => trivial));have n1_ := Aside0.mk (hb);clear HO_13;clear HB;have HO_13 := n0_;have HB := n1_;clear n0_ n1_;(try clear hb);(try clear hkp);(try clear hy0)) | ((with_reducible refine gate_callee (f := 48) rfl ?_);refine goesL_ (some 107) rfl rfl Try.func48 (by kernel_rfl) rfl #[.slice Ao95 t150.length co95,.int .i64 1] rfl (by (try simp only [List.map_toArray,List.map_cons,List.map_nil]);first | done | (rw [show t150.length = t125.length from (Kd.S_reads' HO_13.out).1.symm] <;> rfl) | rfl | (simp only [List.length_drop,List.length_take];rfl)) ?_;(with_reducible refine (laws_heldHoistS.calls kj48 _ _ t150 1 t151 _ ?side1 ?side2 A68.out).mono ?_);(case side1 => repeat (first | exact (Kd.S_reads' HO_13.out).2.2 | (with_reducible refine Kd.C_alloc ?_ _) | (with_reducible refine Kd.C_drewN ?_ _) | (with_reducible refine Kd.C_drew ?_)));(case side2 => rw [show t150.length = t125.length from (Kd.S_reads' HO_13.out).1.symm];exact (Kd.S_reads' HO_13.out).2.1);rintro e w' ⟨rfl,⟨nd,rfl⟩⟩;refine ⟨_,rfl,?_⟩))
               go_ret
               exact ⟨by first | rfl | (simp [errW_none,errW_some,IntKind.wrap_i64,wrap64];done) | (simp [errW_none,errW_some] <;> rfl) | (simp [*,errW_none,errW_some] <;> rfl),by first | exact below_step HBO.out (by repeat (first | (with_reducible first | exact HB.out | apply below_alloc | apply pw_below_drewN | apply below_drew1) | exact HB.out)) | (repeat (first | (with_reducible first | exact HB.out | apply below_alloc | apply pw_below_drewN | apply below_drew1) | exact HB.out))⟩
         ·replace c45 := Bool.eq_false_iff.mpr c45;subst c45
          have H1 : (some false) = some r := by rw [if_neg (show ¬ (false = true) by decide)] at H;exact H
          clear H;have H := H1;clear H1;obtain rfl := Option.some.inj H
          go_wp2_with (first | ((with_reducible refine gate_callee (f := 15) rfl ?_);refine goesL_ (some 67) rfl rfl Try.func15 (by kernel_rfl) rfl #[.slice A0 l0.length c0] rfl (by (try simp only [List.map_toArray,List.map_cons,List.map_nil]);first | done | rfl | (simp only [List.length_drop,List.length_take];rfl)) ?_;(with_reducible refine (laws_toShipS.calls kj16 _ _ l0 t130 _ ?side1 ?side2 A37.out).mono ?_);(case side1 => repeat (first | exact (Kd.C_below HR0.out HB.out) | (with_reducible refine Kd.C_alloc ?_ _) | (with_reducible refine Kd.C_drewN ?_ _) | (with_reducible refine Kd.C_drew ?_)));(case side2 => exact HC0.out);rintro e w97 ⟨v131,rfl,ho0,hb⟩;refine ⟨_,rfl,?_⟩;have n0_ := Aside0.mk (Kd.R_elder' (by (with_reducible repeat (first | apply Kd.R_alloc | apply Kd.R_drewN | apply Kd.R_drew));exact HO_10.out) (Kd.R_base ho0) hb);have n1_ := Aside0.mk (Kd.R_below (by (with_reducible repeat (first | apply Kd.R_alloc | apply Kd.R_drewN | apply Kd.R_drew));exact HO_11.out) hb);have n2_ := Aside0.mk (Kd.R_below (by (with_reducible repeat (first | apply Kd.R_alloc | apply Kd.R_drewN | apply Kd.R_drew));exact HO_12.out) hb);have n3_ := Aside0.mk (Kd.S_below (by (with_reducible repeat (first | apply Kd.S_alloc | apply Kd.S_drewN | apply Kd.S_drew));exact HO_13.out) hb);have n4_ := Aside0.mk (Kd.R_lower (Kd.R_new' ho0 (Kd.R_lt (by (with_reducible repeat (first | apply Kd.R_alloc | apply Kd.R_drewN | apply Kd.R_drew));exact HO_10.out))) (below_size (by repeat (first | (with_reducible first | exact HB.out | apply below_alloc | apply pw_below_drewN | apply below_drew1) | exact HB.out))));have n5_ := Aside0.mk (below_step (by repeat (first | (with_reducible first | exact HB.out | apply below_alloc | apply pw_below_drewN | apply below_drew1) | exact HB.out)) hb);clear HO_10;clear HO_11;clear HO_12;clear HO_13;clear HB;have HO_10 := n0_;have HO_11 := n1_;have HO_12 := n2_;have HO_13 := n3_;have HO132 := n4_;have HB := n5_;clear n0_ n1_ n2_ n3_ n4_ n5_;(try clear hb);(try clear hb2);(try clear hk);(try clear hi);(try clear ho0);obtain ⟨Ao98,co98,eo98⟩ := Kd.R_slice HO132.out;subst eo98) | ((with_reducible refine gate_callee (f := 19) rfl ?_);refine goesL_ (some 68) rfl rfl Try.func19 (by kernel_rfl) rfl #[.slice Ao28 t116.length co28,.slice Ao98 t130.length co98] rfl (by (try simp only [List.map_toArray,List.map_cons,List.map_nil]);first | done | rfl | (simp only [List.length_drop,List.length_take];rfl)) ?_;(with_reducible refine (laws_eqShipS.calls kj16 _ _ t116 _ _ t130 true _ ?side1 ?side2 ?side3 ?side4 A38.out).mono ?_);(case side1 => repeat (first | exact (Kd.R_reads' HO_10.out).2.2 | (with_reducible refine Kd.C_alloc ?_ _) | (with_reducible refine Kd.C_drewN ?_ _) | (with_reducible refine Kd.C_drew ?_)));(case side2 => exact (Kd.R_reads' HO_10.out).2.1);(case side3 => repeat (first | exact (Kd.R_reads' HO132.out).2.2 | (with_reducible refine Kd.C_alloc ?_ _) | (with_reducible refine Kd.C_drewN ?_ _) | (with_reducible refine Kd.C_drew ?_)));(case side4 => exact (Kd.R_reads' HO132.out).2.1);rintro e w99 ⟨rfl,hb⟩;refine ⟨_,rfl,?_⟩;have n0_ := Aside0.mk (Kd.R_below (by (with_reducible repeat (first | apply Kd.R_alloc | apply Kd.R_drewN | apply Kd.R_drew));exact HO_10.out) hb);have n1_ := Aside0.mk (Kd.R_below (by (with_reducible repeat (first | apply Kd.R_alloc | apply Kd.R_drewN | apply Kd.R_drew));exact HO_11.out) hb);have n2_ := Aside0.mk (Kd.R_below (by (with_reducible repeat (first | apply Kd.R_alloc | apply Kd.R_drewN | apply Kd.R_drew));exact HO_12.out) hb);have n3_ := Aside0.mk (Kd.S_below (by (with_reducible repeat (first | apply Kd.S_alloc | apply Kd.S_drewN | apply Kd.S_drew));exact HO_13.out) hb);have n4_ := Aside0.mk (Kd.R_below (by (with_reducible repeat (first | apply Kd.R_alloc | apply Kd.R_drewN | apply Kd.R_drew));exact HO132.out) hb);have n5_ := Aside0.mk (below_step (by repeat (first | (with_reducible first | exact HB.out | apply below_alloc | apply pw_below_drewN | apply below_drew1) | exact HB.out)) hb);clear HO_10;clear HO_11;clear HO_12;clear HO_13;clear HO132;clear HB;have HO_10 := n0_;have HO_11 := n1_;have HO_12 := n2_;have HO_13 := n3_;have HO132 := n4_;have HB := n5_;clear n0_ n1_ n2_ n3_ n4_ n5_;(try clear hb);(try clear hb2);(try clear hk);(try clear hi)) | ((with_reducible refine gate_callee (f := 16) rfl ?_);refine goesL_ (some 72) rfl rfl Try.func16 (by kernel_rfl) rfl #[.slice A1 l1.length c1] rfl (by (try simp only [List.map_toArray,List.map_cons,List.map_nil]);first | done | rfl | (simp only [List.length_drop,List.length_take];rfl)) ?_;(with_reducible refine (laws_toHoist.calls kj16 _ _ l1 t134 _ ?side1 ?side2 A40.out).mono ?_);(case side1 => repeat (first | exact (Kd.C_below HR1.out HB.out) | (with_reducible refine Kd.C_alloc ?_ _) | (with_reducible refine Kd.C_drewN ?_ _) | (with_reducible refine Kd.C_drew ?_)));(case side2 => exact HC1.out);rintro e w100 ⟨v135,rfl,ho0,hb⟩;refine ⟨_,rfl,?_⟩;have n0_ := Aside0.mk (Kd.R_below (by (with_reducible repeat (first | apply Kd.R_alloc | apply Kd.R_drewN | apply Kd.R_drew));exact HO_10.out) hb);have n1_ := Aside0.mk (Kd.R_elder' (by (with_reducible repeat (first | apply Kd.R_alloc | apply Kd.R_drewN | apply Kd.R_drew));exact HO_11.out) (Kd.R_base ho0) hb);have n2_ := Aside0.mk (Kd.R_below (by (with_reducible repeat (first | apply Kd.R_alloc | apply Kd.R_drewN | apply Kd.R_drew));exact HO_12.out) hb);have n3_ := Aside0.mk (Kd.S_elder' (by (with_reducible repeat (first | apply Kd.S_alloc | apply Kd.S_drewN | apply Kd.S_drew));exact HO_13.out) (Kd.R_base ho0) hb);have n4_ := Aside0.mk (Kd.R_below (by (with_reducible repeat (first | apply Kd.R_alloc | apply Kd.R_drewN | apply Kd.R_drew));exact HO132.out) hb);have n5_ := Aside0.mk (Kd.R_lower (Kd.R_new' ho0 (Kd.R_lt (by (with_reducible repeat (first | apply Kd.R_alloc | apply Kd.R_drewN | apply Kd.R_drew));exact HO_11.out))) (below_size (by repeat (first | (with_reducible first | exact HB.out | apply below_alloc | apply pw_below_drewN | apply below_drew1) | exact HB.out))));have n6_ := Aside0.mk (below_step (by repeat (first | (with_reducible first | exact HB.out | apply below_alloc | apply pw_below_drewN | apply below_drew1) | exact HB.out)) hb);clear HO_10;clear HO_11;clear HO_12;clear HO_13;clear HO132;clear HB;have HO_10 := n0_;have HO_11 := n1_;have HO_12 := n2_;have HO_13 := n3_;have HO132 := n4_;have HO136 := n5_;have HB := n6_;clear n0_ n1_ n2_ n3_ n4_ n5_ n6_;(try clear hb);(try clear hb2);(try clear hk);(try clear hi);(try clear ho0);obtain ⟨Ao101,co101,eo101⟩ := Kd.R_slice HO136.out;subst eo101) | ((with_reducible refine gate_callee (f := 20) rfl ?_);refine goesL_ (some 73) rfl rfl Try.func20 (by kernel_rfl) rfl #[.slice Ao29 t119.length co29,.slice Ao101 t134.length co101] rfl (by (try simp only [List.map_toArray,List.map_cons,List.map_nil]);first | done | rfl | (simp only [List.length_drop,List.length_take];rfl)) ?_;(with_reducible refine (laws_eqHoist.calls kj16 _ _ t119 _ _ t134 true _ ?side1 ?side2 ?side3 ?side4 A41.out).mono ?_);(case side1 => repeat (first | exact (Kd.R_reads' HO_11.out).2.2 | (with_reducible refine Kd.C_alloc ?_ _) | (with_reducible refine Kd.C_drewN ?_ _) | (with_reducible refine Kd.C_drew ?_)));(case side2 => exact (Kd.R_reads' HO_11.out).2.1);(case side3 => repeat (first | exact (Kd.R_reads' HO136.out).2.2 | (with_reducible refine Kd.C_alloc ?_ _) | (with_reducible refine Kd.C_drewN ?_ _) | (with_reducible refine Kd.C_drew ?_)));(case side4 => exact (Kd.R_reads' HO136.out).2.1);rintro e w' ⟨rfl,⟨nd,rfl⟩⟩;refine ⟨_,rfl,?_⟩) | ((with_reducible refine gate_callee (f := 35) rfl ?_);refine goesL_ (some 77) rfl rfl Try.func35 (by kernel_rfl) rfl #[.slice A2 l2.length c2] rfl (by (try simp only [List.map_toArray,List.map_cons,List.map_nil]);first | done | rfl | (simp only [List.length_drop,List.length_take];rfl)) ?_;(with_reducible refine (laws_toFaultS.calls kj16 _ _ l2 t138 _ ?side1 ?side2 A43.out).mono ?_);(case side1 => repeat (first | exact (Kd.C_below HR2.out (by repeat (first | (with_reducible first | exact HB.out | apply below_alloc | apply pw_below_drewN | apply below_drew1) | exact HB.out))) | (with_reducible refine Kd.C_alloc ?_ _) | (with_reducible refine Kd.C_drewN ?_ _) | (with_reducible refine Kd.C_drew ?_)));(case side2 => exact HC2.out);rintro e w102 ⟨v139,rfl,ho0,hb⟩;refine ⟨_,rfl,?_⟩;have n0_ := Aside0.mk (Kd.R_below (by (with_reducible repeat (first | apply Kd.R_alloc | apply Kd.R_drewN | apply Kd.R_drew));exact HO_10.out) hb);have n1_ := Aside0.mk (Kd.R_below (by (with_reducible repeat (first | apply Kd.R_alloc | apply Kd.R_drewN | apply Kd.R_drew));exact HO_11.out) hb);have n2_ := Aside0.mk (Kd.R_elder' (by (with_reducible repeat (first | apply Kd.R_alloc | apply Kd.R_drewN | apply Kd.R_drew));exact HO_12.out) (Kd.R_base ho0) hb);have n3_ := Aside0.mk (Kd.S_below (by (with_reducible repeat (first | apply Kd.S_alloc | apply Kd.S_drewN | apply Kd.S_drew));exact HO_13.out) hb);have n4_ := Aside0.mk (Kd.R_below (by (with_reducible repeat (first | apply Kd.R_alloc | apply Kd.R_drewN | apply Kd.R_drew));exact HO132.out) hb);have n5_ := Aside0.mk (Kd.R_below (by (with_reducible repeat (first | apply Kd.R_alloc | apply Kd.R_drewN | apply Kd.R_drew));exact HO136.out) hb);have n6_ := Aside0.mk (Kd.R_lower (Kd.R_new' ho0 (Kd.R_lt (by (with_reducible repeat (first | apply Kd.R_alloc | apply Kd.R_drewN | apply Kd.R_drew));exact HO_12.out))) (below_size (by repeat (first | (with_reducible first | exact HB.out | apply below_alloc | apply pw_below_drewN | apply below_drew1) | exact HB.out))));have n7_ := Aside0.mk (below_step (by repeat (first | (with_reducible first | exact HB.out | apply below_alloc | apply pw_below_drewN | apply below_drew1) | exact HB.out)) hb);clear HO_10;clear HO_11;clear HO_12;clear HO_13;clear HO132;clear HO136;clear HB;have HO_10 := n0_;have HO_11 := n1_;have HO_12 := n2_;have HO_13 := n3_;have HO132 := n4_;have HO136 := n5_;have HO140 := n6_;have HB := n7_;clear n0_ n1_ n2_ n3_ n4_ n5_ n6_ n7_;(try clear hb);(try clear hb2);(try clear hk);(try clear hi);(try clear ho0);obtain ⟨Ao103,co103,eo103⟩ := Kd.R_slice HO140.out;subst eo103) | ((with_reducible refine gate_callee (f := 37) rfl ?_);refine goesL_ (some 78) rfl rfl Try.func37 (by kernel_rfl) rfl #[.slice Ao30 t122.length co30,.slice Ao103 t138.length co103] rfl (by (try simp only [List.map_toArray,List.map_cons,List.map_nil]);first | done | rfl | (simp only [List.length_drop,List.length_take];rfl)) ?_;(with_reducible refine (laws_eqFaultS.calls kj16 _ _ t122 _ _ t138 false _ ?side1 ?side2 ?side3 ?side4 A44.out).mono ?_);(case side1 => repeat (first | exact (Kd.R_reads' HO_12.out).2.2 | (with_reducible refine Kd.C_alloc ?_ _) | (with_reducible refine Kd.C_drewN ?_ _) | (with_reducible refine Kd.C_drew ?_)));(case side2 => exact (Kd.R_reads' HO_12.out).2.1);(case side3 => repeat (first | exact (Kd.R_reads' HO140.out).2.2 | (with_reducible refine Kd.C_alloc ?_ _) | (with_reducible refine Kd.C_drewN ?_ _) | (with_reducible refine Kd.C_drew ?_)));(case side4 => exact (Kd.R_reads' HO140.out).2.1);rintro e w104 ⟨rfl,hb⟩;refine ⟨_,rfl,?_⟩;have n0_ := Aside0.mk (Kd.R_below (by (with_reducible repeat (first | apply Kd.R_alloc | apply Kd.R_drewN | apply Kd.R_drew));exact HO_10.out) hb);have n1_ := Aside0.mk (Kd.R_below (by (with_reducible repeat (first | apply Kd.R_alloc | apply Kd.R_drewN | apply Kd.R_drew));exact HO_11.out) hb);have n2_ := Aside0.mk (Kd.R_below (by (with_reducible repeat (first | apply Kd.R_alloc | apply Kd.R_drewN | apply Kd.R_drew));exact HO_12.out) hb);have n3_ := Aside0.mk (Kd.S_below (by (with_reducible repeat (first | apply Kd.S_alloc | apply Kd.S_drewN | apply Kd.S_drew));exact HO_13.out) hb);have n4_ := Aside0.mk (Kd.R_below (by (with_reducible repeat (first | apply Kd.R_alloc | apply Kd.R_drewN | apply Kd.R_drew));exact HO132.out) hb);have n5_ := Aside0.mk (Kd.R_below (by (with_reducible repeat (first | apply Kd.R_alloc | apply Kd.R_drewN | apply Kd.R_drew));exact HO136.out) hb);have n6_ := Aside0.mk (Kd.R_below (by (with_reducible repeat (first | apply Kd.R_alloc | apply Kd.R_drewN | apply Kd.R_drew));exact HO140.out) hb);have n7_ := Aside0.mk (below_step (by repeat (first | (with_reducible first | exact HB.out | apply below_alloc | apply pw_below_drewN | apply below_drew1) | exact HB.out)) hb);clear HO_10;clear HO_11;clear HO_12;clear HO_13;clear HO132;clear HO136;clear HO140;clear HB;have HO_10 := n0_;have HO_11 := n1_;have HO_12 := n2_;have HO_13 := n3_;have HO132 := n4_;have HO136 := n5_;have HO140 := n6_;have HB := n7_;clear n0_ n1_ n2_ n3_ n4_ n5_ n6_ n7_;(try clear hb);(try clear hb2);(try clear hk);(try clear hi)))
          go_ret
          exact ⟨by first | rfl | (simp [errW_none,errW_some,IntKind.wrap_i64,wrap64];done) | (simp [errW_none,errW_some] <;> rfl) | (simp [*,errW_none,errW_some] <;> rfl),by first | exact below_step HBO.out (by repeat (first | (with_reducible first | exact HB.out | apply below_alloc | apply pw_below_drewN | apply below_drew1) | exact HB.out)) | (repeat (first | (with_reducible first | exact HB.out | apply below_alloc | apply pw_below_drewN | apply below_drew1) | exact HB.out))⟩
        ·replace c42 := Bool.eq_false_iff.mpr c42;subst c42
         have H1 : (some false) = some r := by rw [if_neg (show ¬ (false = true) by decide)] at H;exact H
         clear H;have H := H1;clear H1;obtain rfl := Option.some.inj H
         go_wp2_with (first | ((with_reducible refine gate_callee (f := 15) rfl ?_);refine goesL_ (some 67) rfl rfl Try.func15 (by kernel_rfl) rfl #[.slice A0 l0.length c0] rfl (by (try simp only [List.map_toArray,List.map_cons,List.map_nil]);first | done | rfl | (simp only [List.length_drop,List.length_take];rfl)) ?_;(with_reducible refine (laws_toShipS.calls kj16 _ _ l0 t130 _ ?side1 ?side2 A37.out).mono ?_);(case side1 => repeat (first | exact (Kd.C_below HR0.out HB.out) | (with_reducible refine Kd.C_alloc ?_ _) | (with_reducible refine Kd.C_drewN ?_ _) | (with_reducible refine Kd.C_drew ?_)));(case side2 => exact HC0.out);rintro e w105 ⟨v131,rfl,ho0,hb⟩;refine ⟨_,rfl,?_⟩;have n0_ := Aside0.mk (Kd.R_elder' (by (with_reducible repeat (first | apply Kd.R_alloc | apply Kd.R_drewN | apply Kd.R_drew));exact HO_10.out) (Kd.R_base ho0) hb);have n1_ := Aside0.mk (Kd.R_below (by (with_reducible repeat (first | apply Kd.R_alloc | apply Kd.R_drewN | apply Kd.R_drew));exact HO_11.out) hb);have n2_ := Aside0.mk (Kd.R_below (by (with_reducible repeat (first | apply Kd.R_alloc | apply Kd.R_drewN | apply Kd.R_drew));exact HO_12.out) hb);have n3_ := Aside0.mk (Kd.S_below (by (with_reducible repeat (first | apply Kd.S_alloc | apply Kd.S_drewN | apply Kd.S_drew));exact HO_13.out) hb);have n4_ := Aside0.mk (Kd.R_lower (Kd.R_new' ho0 (Kd.R_lt (by (with_reducible repeat (first | apply Kd.R_alloc | apply Kd.R_drewN | apply Kd.R_drew));exact HO_10.out))) (below_size (by repeat (first | (with_reducible first | exact HB.out | apply below_alloc | apply pw_below_drewN | apply below_drew1) | exact HB.out))));have n5_ := Aside0.mk (below_step (by repeat (first | (with_reducible first | exact HB.out | apply below_alloc | apply pw_below_drewN | apply below_drew1) | exact HB.out)) hb);clear HO_10;clear HO_11;clear HO_12;clear HO_13;clear HB;have HO_10 := n0_;have HO_11 := n1_;have HO_12 := n2_;have HO_13 := n3_;have HO132 := n4_;have HB := n5_;clear n0_ n1_ n2_ n3_ n4_ n5_;(try clear hb);(try clear hb2);(try clear hk);(try clear hi);(try clear ho0);obtain ⟨Ao106,co106,eo106⟩ := Kd.R_slice HO132.out;subst eo106) | ((with_reducible refine gate_callee (f := 19) rfl ?_);refine goesL_ (some 68) rfl rfl Try.func19 (by kernel_rfl) rfl #[.slice Ao28 t116.length co28,.slice Ao106 t130.length co106] rfl (by (try simp only [List.map_toArray,List.map_cons,List.map_nil]);first | done | rfl | (simp only [List.length_drop,List.length_take];rfl)) ?_;(with_reducible refine (laws_eqShipS.calls kj16 _ _ t116 _ _ t130 true _ ?side1 ?side2 ?side3 ?side4 A38.out).mono ?_);(case side1 => repeat (first | exact (Kd.R_reads' HO_10.out).2.2 | (with_reducible refine Kd.C_alloc ?_ _) | (with_reducible refine Kd.C_drewN ?_ _) | (with_reducible refine Kd.C_drew ?_)));(case side2 => exact (Kd.R_reads' HO_10.out).2.1);(case side3 => repeat (first | exact (Kd.R_reads' HO132.out).2.2 | (with_reducible refine Kd.C_alloc ?_ _) | (with_reducible refine Kd.C_drewN ?_ _) | (with_reducible refine Kd.C_drew ?_)));(case side4 => exact (Kd.R_reads' HO132.out).2.1);rintro e w107 ⟨rfl,hb⟩;refine ⟨_,rfl,?_⟩;have n0_ := Aside0.mk (Kd.R_below (by (with_reducible repeat (first | apply Kd.R_alloc | apply Kd.R_drewN | apply Kd.R_drew));exact HO_10.out) hb);have n1_ := Aside0.mk (Kd.R_below (by (with_reducible repeat (first | apply Kd.R_alloc | apply Kd.R_drewN | apply Kd.R_drew));exact HO_11.out) hb);have n2_ := Aside0.mk (Kd.R_below (by (with_reducible repeat (first | apply Kd.R_alloc | apply Kd.R_drewN | apply Kd.R_drew));exact HO_12.out) hb);have n3_ := Aside0.mk (Kd.S_below (by (with_reducible repeat (first | apply Kd.S_alloc | apply Kd.S_drewN | apply Kd.S_drew));exact HO_13.out) hb);have n4_ := Aside0.mk (Kd.R_below (by (with_reducible repeat (first | apply Kd.R_alloc | apply Kd.R_drewN | apply Kd.R_drew));exact HO132.out) hb);have n5_ := Aside0.mk (below_step (by repeat (first | (with_reducible first | exact HB.out | apply below_alloc | apply pw_below_drewN | apply below_drew1) | exact HB.out)) hb);clear HO_10;clear HO_11;clear HO_12;clear HO_13;clear HO132;clear HB;have HO_10 := n0_;have HO_11 := n1_;have HO_12 := n2_;have HO_13 := n3_;have HO132 := n4_;have HB := n5_;clear n0_ n1_ n2_ n3_ n4_ n5_;(try clear hb);(try clear hb2);(try clear hk);(try clear hi)) | ((with_reducible refine gate_callee (f := 16) rfl ?_);refine goesL_ (some 72) rfl rfl Try.func16 (by kernel_rfl) rfl #[.slice A1 l1.length c1] rfl (by (try simp only [List.map_toArray,List.map_cons,List.map_nil]);first | done | rfl | (simp only [List.length_drop,List.length_take];rfl)) ?_;(with_reducible refine (laws_toHoist.calls kj16 _ _ l1 t134 _ ?side1 ?side2 A40.out).mono ?_);(case side1 => repeat (first | exact (Kd.C_below HR1.out HB.out) | (with_reducible refine Kd.C_alloc ?_ _) | (with_reducible refine Kd.C_drewN ?_ _) | (with_reducible refine Kd.C_drew ?_)));(case side2 => exact HC1.out);rintro e w108 ⟨v135,rfl,ho0,hb⟩;refine ⟨_,rfl,?_⟩;have n0_ := Aside0.mk (Kd.R_below (by (with_reducible repeat (first | apply Kd.R_alloc | apply Kd.R_drewN | apply Kd.R_drew));exact HO_10.out) hb);have n1_ := Aside0.mk (Kd.R_elder' (by (with_reducible repeat (first | apply Kd.R_alloc | apply Kd.R_drewN | apply Kd.R_drew));exact HO_11.out) (Kd.R_base ho0) hb);have n2_ := Aside0.mk (Kd.R_below (by (with_reducible repeat (first | apply Kd.R_alloc | apply Kd.R_drewN | apply Kd.R_drew));exact HO_12.out) hb);have n3_ := Aside0.mk (Kd.S_elder' (by (with_reducible repeat (first | apply Kd.S_alloc | apply Kd.S_drewN | apply Kd.S_drew));exact HO_13.out) (Kd.R_base ho0) hb);have n4_ := Aside0.mk (Kd.R_below (by (with_reducible repeat (first | apply Kd.R_alloc | apply Kd.R_drewN | apply Kd.R_drew));exact HO132.out) hb);have n5_ := Aside0.mk (Kd.R_lower (Kd.R_new' ho0 (Kd.R_lt (by (with_reducible repeat (first | apply Kd.R_alloc | apply Kd.R_drewN | apply Kd.R_drew));exact HO_11.out))) (below_size (by repeat (first | (with_reducible first | exact HB.out | apply below_alloc | apply pw_below_drewN | apply below_drew1) | exact HB.out))));have n6_ := Aside0.mk (below_step (by repeat (first | (with_reducible first | exact HB.out | apply below_alloc | apply pw_below_drewN | apply below_drew1) | exact HB.out)) hb);clear HO_10;clear HO_11;clear HO_12;clear HO_13;clear HO132;clear HB;have HO_10 := n0_;have HO_11 := n1_;have HO_12 := n2_;have HO_13 := n3_;have HO132 := n4_;have HO136 := n5_;have HB := n6_;clear n0_ n1_ n2_ n3_ n4_ n5_ n6_;(try clear hb);(try clear hb2);(try clear hk);(try clear hi);(try clear ho0);obtain ⟨Ao109,co109,eo109⟩ := Kd.R_slice HO136.out;subst eo109) | ((with_reducible refine gate_callee (f := 20) rfl ?_);refine goesL_ (some 73) rfl rfl Try.func20 (by kernel_rfl) rfl #[.slice Ao29 t119.length co29,.slice Ao109 t134.length co109] rfl (by (try simp only [List.map_toArray,List.map_cons,List.map_nil]);first | done | rfl | (simp only [List.length_drop,List.length_take];rfl)) ?_;(with_reducible refine (laws_eqHoist.calls kj16 _ _ t119 _ _ t134 false _ ?side1 ?side2 ?side3 ?side4 A41.out).mono ?_);(case side1 => repeat (first | exact (Kd.R_reads' HO_11.out).2.2 | (with_reducible refine Kd.C_alloc ?_ _) | (with_reducible refine Kd.C_drewN ?_ _) | (with_reducible refine Kd.C_drew ?_)));(case side2 => exact (Kd.R_reads' HO_11.out).2.1);(case side3 => repeat (first | exact (Kd.R_reads' HO136.out).2.2 | (with_reducible refine Kd.C_alloc ?_ _) | (with_reducible refine Kd.C_drewN ?_ _) | (with_reducible refine Kd.C_drew ?_)));(case side4 => exact (Kd.R_reads' HO136.out).2.1);rintro e w' ⟨rfl,⟨nd,rfl⟩⟩;refine ⟨_,rfl,?_⟩))
         go_ret
         exact ⟨by first | rfl | (simp [errW_none,errW_some,IntKind.wrap_i64,wrap64];done) | (simp [errW_none,errW_some] <;> rfl) | (simp [*,errW_none,errW_some] <;> rfl),by first | exact below_step HBO.out (by repeat (first | (with_reducible first | exact HB.out | apply below_alloc | apply pw_below_drewN | apply below_drew1) | exact HB.out)) | (repeat (first | (with_reducible first | exact HB.out | apply below_alloc | apply pw_below_drewN | apply below_drew1) | exact HB.out))⟩
       ·replace c39 := Bool.eq_false_iff.mpr c39;subst c39
        have H1 : (some false) = some r := by rw [if_neg (show ¬ (false = true) by decide)] at H;exact H
        clear H;have H := H1;clear H1;obtain rfl := Option.some.inj H
        go_wp2_with (first | ((with_reducible refine gate_callee (f := 15) rfl ?_);refine goesL_ (some 67) rfl rfl Try.func15 (by kernel_rfl) rfl #[.slice A0 l0.length c0] rfl (by (try simp only [List.map_toArray,List.map_cons,List.map_nil]);first | done | rfl | (simp only [List.length_drop,List.length_take];rfl)) ?_;(with_reducible refine (laws_toShipS.calls kj16 _ _ l0 t130 _ ?side1 ?side2 A37.out).mono ?_);(case side1 => repeat (first | exact (Kd.C_below HR0.out HB.out) | (with_reducible refine Kd.C_alloc ?_ _) | (with_reducible refine Kd.C_drewN ?_ _) | (with_reducible refine Kd.C_drew ?_)));(case side2 => exact HC0.out);rintro e w110 ⟨v131,rfl,ho0,hb⟩;refine ⟨_,rfl,?_⟩;have n0_ := Aside0.mk (Kd.R_elder' (by (with_reducible repeat (first | apply Kd.R_alloc | apply Kd.R_drewN | apply Kd.R_drew));exact HO_10.out) (Kd.R_base ho0) hb);have n1_ := Aside0.mk (Kd.R_below (by (with_reducible repeat (first | apply Kd.R_alloc | apply Kd.R_drewN | apply Kd.R_drew));exact HO_11.out) hb);have n2_ := Aside0.mk (Kd.R_below (by (with_reducible repeat (first | apply Kd.R_alloc | apply Kd.R_drewN | apply Kd.R_drew));exact HO_12.out) hb);have n3_ := Aside0.mk (Kd.S_below (by (with_reducible repeat (first | apply Kd.S_alloc | apply Kd.S_drewN | apply Kd.S_drew));exact HO_13.out) hb);have n4_ := Aside0.mk (Kd.R_lower (Kd.R_new' ho0 (Kd.R_lt (by (with_reducible repeat (first | apply Kd.R_alloc | apply Kd.R_drewN | apply Kd.R_drew));exact HO_10.out))) (below_size (by repeat (first | (with_reducible first | exact HB.out | apply below_alloc | apply pw_below_drewN | apply below_drew1) | exact HB.out))));have n5_ := Aside0.mk (below_step (by repeat (first | (with_reducible first | exact HB.out | apply below_alloc | apply pw_below_drewN | apply below_drew1) | exact HB.out)) hb);clear HO_10;clear HO_11;clear HO_12;clear HO_13;clear HB;have HO_10 := n0_;have HO_11 := n1_;have HO_12 := n2_;have HO_13 := n3_;have HO132 := n4_;have HB := n5_;clear n0_ n1_ n2_ n3_ n4_ n5_;(try clear hb);(try clear hb2);(try clear hk);(try clear hi);(try clear ho0);obtain ⟨Ao111,co111,eo111⟩ := Kd.R_slice HO132.out;subst eo111) | ((with_reducible refine gate_callee (f := 19) rfl ?_);refine goesL_ (some 68) rfl rfl Try.func19 (by kernel_rfl) rfl #[.slice Ao28 t116.length co28,.slice Ao111 t130.length co111] rfl (by (try simp only [List.map_toArray,List.map_cons,List.map_nil]);first | done | rfl | (simp only [List.length_drop,List.length_take];rfl)) ?_;(with_reducible refine (laws_eqShipS.calls kj16 _ _ t116 _ _ t130 false _ ?side1 ?side2 ?side3 ?side4 A38.out).mono ?_);(case side1 => repeat (first | exact (Kd.R_reads' HO_10.out).2.2 | (with_reducible refine Kd.C_alloc ?_ _) | (with_reducible refine Kd.C_drewN ?_ _) | (with_reducible refine Kd.C_drew ?_)));(case side2 => exact (Kd.R_reads' HO_10.out).2.1);(case side3 => repeat (first | exact (Kd.R_reads' HO132.out).2.2 | (with_reducible refine Kd.C_alloc ?_ _) | (with_reducible refine Kd.C_drewN ?_ _) | (with_reducible refine Kd.C_drew ?_)));(case side4 => exact (Kd.R_reads' HO132.out).2.1);rintro e w112 ⟨rfl,hb⟩;refine ⟨_,rfl,?_⟩;have n0_ := Aside0.mk (Kd.R_below (by (with_reducible repeat (first | apply Kd.R_alloc | apply Kd.R_drewN | apply Kd.R_drew));exact HO_10.out) hb);have n1_ := Aside0.mk (Kd.R_below (by (with_reducible repeat (first | apply Kd.R_alloc | apply Kd.R_drewN | apply Kd.R_drew));exact HO_11.out) hb);have n2_ := Aside0.mk (Kd.R_below (by (with_reducible repeat (first | apply Kd.R_alloc | apply Kd.R_drewN | apply Kd.R_drew));exact HO_12.out) hb);have n3_ := Aside0.mk (Kd.S_below (by (with_reducible repeat (first | apply Kd.S_alloc | apply Kd.S_drewN | apply Kd.S_drew));exact HO_13.out) hb);have n4_ := Aside0.mk (Kd.R_below (by (with_reducible repeat (first | apply Kd.R_alloc | apply Kd.R_drewN | apply Kd.R_drew));exact HO132.out) hb);have n5_ := Aside0.mk (below_step (by repeat (first | (with_reducible first | exact HB.out | apply below_alloc | apply pw_below_drewN | apply below_drew1) | exact HB.out)) hb);clear HO_10;clear HO_11;clear HO_12;clear HO_13;clear HO132;clear HB;have HO_10 := n0_;have HO_11 := n1_;have HO_12 := n2_;have HO_13 := n3_;have HO132 := n4_;have HB := n5_;clear n0_ n1_ n2_ n3_ n4_ n5_;(try clear hb);(try clear hb2);(try clear hk);(try clear hi)))
        go_ret
        exact ⟨by first | rfl | (simp [errW_none,errW_some,IntKind.wrap_i64,wrap64];done) | (simp [errW_none,errW_some] <;> rfl) | (simp [*,errW_none,errW_some] <;> rfl),by first | exact below_step HBO.out (by repeat (first | (with_reducible first | exact HB.out | apply below_alloc | apply pw_below_drewN | apply below_drew1) | exact HB.out)) | (repeat (first | (with_reducible first | exact HB.out | apply below_alloc | apply pw_below_drewN | apply below_drew1) | exact HB.out))⟩
end Go.Proofs.Ytheenidapjkboaa.G
end

section
namespace Go.Proofs.Ytheenidapjkboaa.G
open Go.RowKit Go.Proofs.YtheenidapjkboaaW.PrintWords Go.Proofs.YtheenidapjkboaaW.PrintLast Go.Proofs.YtheenidapjkboaaW.PrintMore
attribute [local go_sem] max2_int min2_int max_two min_two max_three min_three max_four min_four
set_option linter.unusedVariables false
set_option linter.unusedSimpArgs false
open Go.ChangeShapes Go.WideShapes Go.Deep in
structure Opens {α : Type} (P : Program) (t : TypeId) (d : Kd α) (Wf : α → Prop) : Prop where
  sz : P.cellsOf t = d.sz
  op : ∀ {H : Type} {enc : TypeId × Value → H} {w : World} {base : Nat} {spare : Nat → Bool} {held : Bool} {fuel : Nat} {cs : List Value} {x : DataW H × List MemPlace}, DataW.trod enc P w base spare held fuel t cs = some x → ∃ a : α, d.K w a cs ∧ Wf a
theorem opens_int {P : Program} {t : TypeId} {k : IntKind} (ht : P.underlying t = some (.int k)) (hC : P.cellsOf t = 1) : Opens P t (Kd.int k) (fun n => (Lit.int k n).wf = true) where
  sz := hC
  op := fun h => by
    obtain ⟨n, rfl, _, hw⟩ := DataW.trod_int ht h
    exact ⟨n, rfl, hw⟩
theorem list_of {α : Type} {Q : Nat → α → Prop} : ∀ n, (∀ i, i < n → ∃ y, Q i y) → ∃ l : List α, l.length = n ∧ ∀ i y, l[i]? = some y → Q i y
  | 0, _ => ⟨[], rfl, fun i y h => by simp at h⟩
  | n + 1, h => by
    obtain ⟨l, hl, hq⟩ := list_of n (fun i hi => h i (by omega))
    obtain ⟨y, hy⟩ := h n (by omega)
    refine ⟨l ++ [y], by simp [hl], fun i z hz => ?_⟩
    rcases Nat.lt_or_ge i l.length with hi | hi
    · rw [List.getElem?_append_left hi] at hz
      exact hq i z hz
    · rw [List.getElem?_append_right hi] at hz
      have : i - l.length = 0 := by
        rcases Nat.eq_zero_or_pos (i - l.length) with h0 | h0
        · exact h0
        · rw [List.getElem?_eq_none (by simp; omega)] at hz
          cases hz
      rw [this] at hz
      have e : y = z := by simpa using hz
      subst e
      have : i = n := by omega
      subst this
      exact hy
theorem opens_slice {α : Type} {P : Program} {t e : TypeId} {d : Kd α} {Wf : α → Prop} (ht : P.underlying t = some (.slice e)) (hC : P.cellsOf t = 1) (he : Opens P e d Wf) : Opens P t (Kd.slice e d) (fun l => l.length ≤ 9223372036854775807 ∧ ∀ x ∈ l, Wf x) where
  sz := hC
  op := fun {H enc w base spare held fuel cs x} h => by
    rcases Go.Deep.open_slice ht h with ⟨rfl, _⟩ | ⟨a, len, cap, m, n, D, Pl, rfl, hb, hl, hm, hmm, _, hi⟩
    · exact ⟨[], ⟨none, 0, rfl, Nat.le_refl _, rfl, by simp, fun h => absurd h (by simp)⟩, by simp, by simp⟩
    · have hlen : len ≤ m := by rw [hmm]; split <;> omega
      obtain ⟨l, hll, hq⟩ := list_of (Q := fun i y => (∃ c, c.length = d.sz ∧ d.K w y c ∧ ∀ j u, c[j]? = some u → w.cell? (a.add (i * d.sz + j)) = some u) ∧ Wf y) len (fun i him => by
        obtain ⟨cs', hc, ht'⟩ := hi i (by omega)
        obtain ⟨y, hK, hW⟩ := he.op ht'
        obtain ⟨_, hcl, hat⟩ := World.cells?_some hc
        refine ⟨y, ⟨cs', d.K_len hK, hK, fun j u hu => ?_⟩, hW⟩
        have hj : j < cs'.length := (List.getElem?_eq_some_iff.1 hu).1
        have h1 := hat j (by rw [he.sz, ← d.K_len hK]; exact hj)
        rw [← he.sz, ← Go.Deep.add_add, h1, hu])
      refine ⟨l, ⟨some a, cap, by rw [hll], by rw [hll]; exact hl, rfl, by rw [hll]; have := hm; unfold maxLen at this; omega, fun _ => ⟨a, rfl, fun j p hj => (hq j p hj).1⟩⟩, by rw [hll]; have := hm; unfold maxLen at this; omega, fun y hy => ?_⟩
      obtain ⟨j, hj, rfl⟩ := List.mem_iff_getElem.1 hy
      exact (hq j _ (List.getElem?_eq_getElem hj)).2
def offs (P : Program) : List TypeId → Nat → Nat
  | [], _ => 0
  | _ :: _, 0 => 0
  | t :: ts, i + 1 => P.cellsOf t + offs P ts i
def OpensF {α : Type} (P : Program) (ts : List TypeId) (d : Kd α) (Wf : α → Prop) : Prop :=
  ∀ {H : Type} {enc : TypeId × Value → H} {w : World} {base : Nat} {spare : Nat → Bool} {held : Bool} {n : Nat} {cs : List Value}, cs.length = d.sz → (∀ i t, ts[i]? = some t → ∃ x, DataW.trod enc P w base spare held n t ((cs.drop (offs P ts i)).take (P.cellsOf t)) = some x) → ∃ a : α, d.K w a cs ∧ Wf a
theorem opensF_one {α : Type} {P : Program} {t : TypeId} {d : Kd α} {Wf : α → Prop} (h : Opens P t d Wf) : OpensF P [t] d Wf := fun {H enc w base spare held n cs} hl hf => by
  obtain ⟨x, hx⟩ := hf 0 t rfl
  simp only [offs, List.drop_zero] at hx
  rw [List.take_of_length_le (by rw [hl, h.sz]; exact Nat.le_refl _)] at hx
  exact h.op hx
theorem opensF_cons {α β : Type} {P : Program} {t : TypeId} {ts : List TypeId} {d : Kd α} {d' : Kd β} {Wf : α → Prop} {Wf' : β → Prop} (h : Opens P t d Wf) (h' : OpensF P ts d' Wf') : OpensF P (t :: ts) (Kd.pair d d') (fun x => Wf x.1 ∧ Wf' x.2) := fun {H enc w base spare held n cs} hl hf => by
  have hl' : cs.length = d.sz + d'.sz := hl
  obtain ⟨x, hx⟩ := hf 0 t rfl
  simp only [offs, List.drop_zero] at hx
  obtain ⟨a, hK, hW⟩ := h.op hx
  obtain ⟨b, hK', hW'⟩ := h' (enc := enc) (w := w) (base := base) (spare := spare) (held := held) (n := n) (cs := cs.drop d.sz) (by rw [List.length_drop, hl']; omega) (fun i t' ht' => by
    obtain ⟨y, hy⟩ := hf (i + 1) t' (by simpa using ht')
    refine ⟨y, ?_⟩
    rw [List.drop_drop]
    simpa only [offs, h.sz] using hy)
  refine ⟨(a, b), ⟨_, _, (List.take_append_drop d.sz cs).symm, ?_, hK'⟩, hW, hW'⟩
  rw [← h.sz]
  exact hK
theorem opens_struct {α β : Type} {P : Program} {t : TypeId} {fs : Array Field} {d : Kd α} {Wf : α → Prop} (f : β → α) (g : α → β) (hfg : ∀ a, f (g a) = a) (ht : P.underlying t = some (.struct fs)) (hC : P.cellsOf t = d.sz)
    (ho : ((List.range fs.size).all fun i => decide ((fs[i]?.map Field.offset) = some (offs P (fs.toList.map Field.type) i))) = true) (h : OpensF P (fs.toList.map Field.type) d Wf) : Opens P t (Kd.iso d f) (fun x => Wf (f x)) where
  sz := hC
  op := fun {H enc w base spare held fuel cs x} hx => by
    obtain ⟨xs, n, _, _, hlen, hxl, hf⟩ := DataW.trod_struct ht hx
    obtain ⟨a, hK, hW⟩ := h (enc := enc) (w := w) (base := base) (spare := spare) (held := held) (n := n) (cs := cs) (by rw [hlen, hC]) (fun i t' ht' => by
      have hi : i < fs.size := by
        have := (List.getElem?_eq_some_iff.1 ht').1
        simpa using this
      have e : fs[i]? = some fs[i] := Array.getElem?_eq_getElem hi
      have et : fs[i].type = t' := by
        rw [List.getElem?_map] at ht'
        have : fs.toList[i]? = some fs[i] := by simp [hi]
        rw [this] at ht'
        simpa using ht'
      have eo := of_decide_eq_true (List.all_eq_true.1 ho i (List.mem_range.2 hi))
      rw [e] at eo
      have eo' : fs[i].offset = offs P (fs.toList.map Field.type) i := by simpa using eo
      have h1 := hf i fs[i] e
      rw [et, eo'] at h1
      exact ⟨_, h1.trans (List.getElem?_eq_getElem (show i < xs.length by omega))⟩)
    exact ⟨g a, by show d.K w (f (g a)) cs; rw [hfg]; exact hK, by show Wf (f (g a)); rw [hfg]; exact hW⟩
theorem op104 : Opens Try.prog 104 (Kd.int .i8) (fun x : Int => (Lit.int .i8 x).wf = true) := opens_int (k := .i8) Try.underlying104 (by kernel_rfl)
theorem op111 : Opens Try.prog 111 k111 (fun x : S111 => (Lit.int .i8 x.f0).wf = true ∧ (Lit.int .i8 x.f1).wf = true ∧ (Lit.int .i8 x.f2).wf = true) := opens_struct (fun x : S111 => (x.f0, x.f1, x.f2)) (fun a => ⟨a.1, a.2.1, a.2.2⟩) (fun _ => rfl) Try.underlying111 (by kernel_rfl) (by kernel_rfl) (opensF_cons op104 (opensF_cons op104 (opensF_one op104)))
theorem op22 : Opens Try.prog 22 (Kd.slice 111 k111) (fun x : List (S111) => (x.length ≤ 9223372036854775807 ∧ ∀ x_ ∈ x, (Lit.int .i8 x_.f0).wf = true ∧ (Lit.int .i8 x_.f1).wf = true ∧ (Lit.int .i8 x_.f2).wf = true)) := opens_slice Try.underlying22 (by kernel_rfl) op111
theorem op23 : Opens Try.prog 23 (Kd.slice 104 (Kd.int .i8)) (fun x : List Int => (x.length ≤ 9223372036854775807 ∧ ∀ x_ ∈ x, (Lit.int .i8 x_).wf = true)) := opens_slice Try.underlying23 (by kernel_rfl) op104
theorem op146 : Opens Try.prog 146 k146 (fun x : S146 => (Lit.int .i8 x.f0).wf = true ∧ (Lit.int .i8 x.f1).wf = true ∧ (Lit.int .i8 x.f2).wf = true) := opens_struct (fun x : S146 => (x.f0, x.f1, x.f2)) (fun a => ⟨a.1, a.2.1, a.2.2⟩) (fun _ => rfl) Try.underlying146 (by kernel_rfl) (by kernel_rfl) (opensF_cons op104 (opensF_cons op104 (opensF_one op104)))
theorem op60 : Opens Try.prog 60 (Kd.slice 146 k146) (fun x : List (S146) => (x.length ≤ 9223372036854775807 ∧ ∀ x_ ∈ x, (Lit.int .i8 x_.f0).wf = true ∧ (Lit.int .i8 x_.f1).wf = true ∧ (Lit.int .i8 x_.f2).wf = true)) := opens_slice Try.underlying60 (by kernel_rfl) op146
end Go.Proofs.Ytheenidapjkboaa.G
end

section
namespace Go.Proofs.Ytheenidapjkboaa.G.Pure
open Go.RowKit Go.Proofs.Ytheenidapjkboaa.G Go.Proofs.YtheenidapjkboaaW.PrintWords Go.Proofs.YtheenidapjkboaaW.PrintLast Go.Proofs.YtheenidapjkboaaW.PrintMore
set_option linter.unusedVariables false
set_option linter.unusedSimpArgs false
theorem w64 {n : Int} (h0 : -9223372036854775808 ≤ n) (h1 : n ≤ 9223372036854775807) : wrap64 n = n := by
 unfold wrap64
 omega
theorem i8b {n : Int} (h : (Lit.int .i8 n).wf = true) : -128 ≤ n ∧ n ≤ 127 := by
 simp [Lit.wf,IntKind.min,IntKind.max,IntKind.signed,IntKind.bits] at h
 omega
theorem i8w {n : Int} (h0 : -128 ≤ n) (h1 : n ≤ 127) : IntKind.i8.wrap n = n := by
 simp only [IntKind.wrap,IntKind.signed,IntKind.bits]
 simp
 omega
theorem loop_inv {σ γ : Type} (L : Nat → σ → Option γ) (n : Nat) (I : Nat → σ → Prop) (R : γ → Prop)
  (hs : ∀ k i s,i < n → I i s → (∃ s',I (i + 1) s' ∧ L (k + 1) s = L k s') ∨ (∃ r,R r ∧ L (k + 1) s = some r))
  (he : ∀ k s,I n s → ∃ r,R r ∧ L (k + 1) s = some r) : ∀ k s,I 0 s → n < k → ∃ r,R r ∧ L k s = some r := by
 have go : ∀ d i k s,i + d = n → I i s → d < k → ∃ r,R r ∧ L k s = some r := by
  intro d
  induction d with
  | zero =>
   intro i k s hi hI hk
   obtain ⟨k,rfl⟩ : ∃ m,k = m + 1 := ⟨k - 1,by omega⟩
   obtain rfl : i = n := by omega
   exact he k s hI
  | succ d ih =>
   intro i k s hi hI hk
   obtain ⟨k,rfl⟩ : ∃ m,k = m + 1 := ⟨k - 1,by omega⟩
   rcases hs k i s (by omega) hI with ⟨s',hI',h⟩ | h
   ·rw [h]
    exact ih (i + 1) k s' (by omega) hI' (by omega)
   ·exact h
 intro k s hI hk
 exact go n 0 k s (by omega) hI hk
theorem take_set_succ {α : Type} {l : List α} {i : Nat} (h : i < l.length) (v : α) : (l.set i v).take (i + 1) = l.take i ++ [v] := by
 rw [List.take_succ_eq_append_getElem (by simpa using h)]
 simp [List.take_set_of_le]
theorem rd_nat {l : List Int} {i : Nat} (h : i < l.length) : rd l (i : Int) = l[i] := by
 simp [rd,List.getD_eq_getElem?_getD,List.getElem?_eq_getElem h]
end Go.Proofs.Ytheenidapjkboaa.G.Pure
end

section
namespace Go.Proofs.Ytheenidapjkboaa.G.Pure
open Go.RowKit Go.Proofs.Ytheenidapjkboaa.G Go.Proofs.YtheenidapjkboaaW.PrintWords Go.Proofs.YtheenidapjkboaaW.PrintLast Go.Proofs.YtheenidapjkboaaW.PrintMore
set_option linter.unusedVariables false
set_option linter.unusedSimpArgs false
def shipOf (x : S111) : S109 := ⟨x.f0,x.f1,x.f2⟩
theorem szShipS_eq (l : List (S111)) (a : Int) (h0 : 0 ≤ a) (h1 : a ≤ 1048576) (hl : l.length ≤ 9223372036854775807) : laws_szShipS.f l a = some (if a - l.length < 0 then -1 else a - l.length) := by
 unfold laws_szShipS.f
 rw [w64 (by omega) (by omega)]
 split <;> rfl
theorem rd_laws_Ship {l : List (S111)} {i : Nat} (h : i < l.length) : rd_T111 l (i : Int) = l[i] := by
 simp [rd_T111,List.getD_eq_getElem?_getD,List.getElem?_eq_getElem h]
theorem rd_impl_Ship {l : List (S109)} {i : Nat} (h : i < l.length) : rd_T109 l (i : Int) = l[i] := by
 simp [rd_T109,List.getD_eq_getElem?_getD,List.getElem?_eq_getElem h]
theorem toShipS_eq (k : Nat) (l : List (S111)) (hl : l.length ≤ 1048576) (hk : l.length < k) : laws_toShipS.f k l = some (l.map shipOf) := by
 unfold laws_toShipS.f
 rw [if_pos (by omega),if_pos (by omega)]
 obtain ⟨r,hr,h⟩ := loop_inv (fun k (s : List (S109) × Int) => laws_toShipS.l0 k l s.1 s.2) l.length (fun i s => s.2 = (i : Int) ∧ s.1.length = l.length ∧ s.1.take i = (l.map shipOf).take i) (fun r => r = l.map shipOf)
  (fun k i s hi ⟨h1,h2,h3⟩ => by
   obtain ⟨acc,x⟩ := s
   simp only at h1 h2 h3
   subst h1
   refine .inl ⟨(acc.set i (shipOf l[i]),((i + 1 : Nat) : Int)),⟨rfl,by simpa using h2,?_⟩,?_⟩
   ·rw [take_set_succ (by omega),h3,List.take_succ_eq_append_getElem (by simpa using hi)]
    simp
   ·simp only [laws_toShipS.l0]
    rw [if_pos (by omega),if_pos (by omega),rd_laws_Ship hi]
    simp only [laws_toShip.f,Option.bind_some]
    rw [if_pos (by omega),w64 (by omega) (by omega)]
    rfl)
  (fun k s ⟨h1,h2,h3⟩ => by
   obtain ⟨acc,x⟩ := s
   simp only at h1 h2 h3
   subst h1
   refine ⟨acc,?_,?_⟩
   ·rw [List.take_of_length_le (by omega),List.take_of_length_le (by simp)] at h3
    exact h3
   ·simp only [laws_toShipS.l0]
    rw [if_neg (by omega)]) k (List.replicate l.length z109,0) ⟨rfl,by simp,by simp⟩ hk
 subst hr
 simpa using h
theorem eqShip_self (a : S109) : laws_eqShip.f a.f0 a.f1 a.f2 a.f0 a.f1 a.f2 = some true := by
 simp [laws_eqShip.f]
theorem eqShipS_self (k : Nat) (a : List (S109)) (hl : a.length ≤ 1048576) (hk : a.length < k) : laws_eqShipS.f k a a = some true := by
 unfold laws_eqShipS.f
 rw [if_pos rfl]
 obtain ⟨r,hr,h⟩ := loop_inv (fun k (s : Int) => laws_eqShipS.l0 k a a s) a.length (fun i s => s = (i : Int)) (fun r => r = true)
  (fun k i s hi h1 => by
   subst h1
   refine .inl ⟨((i + 1 : Nat) : Int),rfl,?_⟩
   simp only [laws_eqShipS.l0]
   rw [if_pos (by omega),if_pos (by omega),if_pos (by omega),eqShip_self]
   simp only [Option.bind_some,if_true]
   rw [w64 (by omega) (by omega)]
   rfl)
  (fun k s h1 => by
   subst h1
   refine ⟨true,rfl,?_⟩
   simp only [laws_eqShipS.l0]
   rw [if_neg (by omega)]) k 0 rfl hk
 subst hr
 exact h
end Go.Proofs.Ytheenidapjkboaa.G.Pure
end

section
namespace Go.Proofs.Ytheenidapjkboaa.G.Pure
open Go.RowKit Go.Proofs.Ytheenidapjkboaa.G Go.Proofs.YtheenidapjkboaaW.PrintWords Go.Proofs.YtheenidapjkboaaW.PrintLast Go.Proofs.YtheenidapjkboaaW.PrintMore
set_option linter.unusedVariables false
set_option linter.unusedSimpArgs false
abbrev Ft := S144
def faultOf (x : S146) : Ft := ⟨x.f0,x.f1,x.f2⟩
theorem szFaultS_eq (l : List (S146)) (a : Int) (h0 : 0 ≤ a) (h1 : a ≤ 1048576) (hl : l.length ≤ 9223372036854775807) : laws_szFaultS.f l a = some (if a - l.length < 0 then -1 else a - l.length) := by
 unfold laws_szFaultS.f
 rw [w64 (by omega) (by omega)]
 split <;> rfl
theorem rd_laws_Fault {l : List (S146)} {i : Nat} (h : i < l.length) : rd_T146 l (i : Int) = l[i] := by
 simp [rd_T146,List.getD_eq_getElem?_getD,List.getElem?_eq_getElem h]
theorem rd_impl_Fault {l : List Ft} {i : Nat} (h : i < l.length) : rd_T144 l (i : Int) = l[i] := by
 simp [rd_T144,List.getD_eq_getElem?_getD,List.getElem?_eq_getElem h]
theorem rd_set_Fault {l : List Ft} {i : Nat} (h : i < l.length) (v : Ft) : rd_T144 (l.set i v) (i : Int) = v := by
 rw [rd_impl_Fault (by simpa using h)]
 simp
theorem rd_set_Ship {l : List (S109)} {i : Nat} (h : i < l.length) (v : S109) : rd_T109 (l.set i v) (i : Int) = v := by
 rw [rd_impl_Ship (by simpa using h)]
 simp
theorem toFaultS_eq (k : Nat) (l : List (S146)) (hl : l.length ≤ 1048576) (hk : l.length < k) : laws_toFaultS.f k l = some (l.map faultOf) := by
 unfold laws_toFaultS.f
 rw [if_pos (by omega),if_pos (by omega)]
 obtain ⟨r,hr,h⟩ := loop_inv (fun k (s : List Ft × Int) => laws_toFaultS.l0 k l s.1 s.2) l.length (fun i s => s.2 = (i : Int) ∧ s.1.length = l.length ∧ s.1.take i = (l.map faultOf).take i) (fun r => r = l.map faultOf)
  (fun k i s hi ⟨h1,h2,h3⟩ => by
   obtain ⟨acc,x⟩ := s
   simp only at h1 h2 h3
   subst h1
   refine .inl ⟨(acc.set i (faultOf l[i]),((i + 1 : Nat) : Int)),⟨rfl,by simpa using h2,?_⟩,?_⟩
   ·rw [take_set_succ (by omega),h3,List.take_succ_eq_append_getElem (by simpa using hi)]
    simp
   ·simp only [laws_toFaultS.l0]
    rw [if_pos (by omega),if_pos (by omega),rd_laws_Fault hi]
    simp only [laws_toFault.f,Option.bind_some]
    rw [if_pos (by omega),w64 (by omega) (by omega)]
    rfl)
  (fun k s ⟨h1,h2,h3⟩ => by
   obtain ⟨acc,x⟩ := s
   simp only at h1 h2 h3
   subst h1
   refine ⟨acc,?_,?_⟩
   ·rw [List.take_of_length_le (by omega),List.take_of_length_le (by simp)] at h3
    exact h3
   ·simp only [laws_toFaultS.l0]
    rw [if_neg (by omega)]) k (List.replicate l.length z144,0) ⟨rfl,by simp,by simp⟩ hk
 subst hr
 simpa using h
theorem eqFault_self (a : Ft) : laws_eqFault.f a.f0 a.f1 a.f2 a.f0 a.f1 a.f2 = some true := by
 simp [laws_eqFault.f]
theorem eqFaultS_self (k : Nat) (a : List Ft) (hl : a.length ≤ 1048576) (hk : a.length < k) : laws_eqFaultS.f k a a = some true := by
 unfold laws_eqFaultS.f
 rw [if_pos rfl]
 obtain ⟨r,hr,h⟩ := loop_inv (fun k (s : Int) => laws_eqFaultS.l0 k a a s) a.length (fun i s => s = (i : Int)) (fun r => r = true)
  (fun k i s hi h1 => by
   subst h1
   refine .inl ⟨((i + 1 : Nat) : Int),rfl,?_⟩
   simp only [laws_eqFaultS.l0]
   rw [if_pos (by omega),if_pos (by omega),if_pos (by omega),eqFault_self]
   simp only [Option.bind_some,if_true]
   rw [w64 (by omega) (by omega)]
   rfl)
  (fun k s h1 => by
   subst h1
   refine ⟨true,rfl,?_⟩
   simp only [laws_eqFaultS.l0]
   rw [if_neg (by omega)]) k 0 rfl hk
 subst hr
 exact h
theorem wf_faults {l : List (S146)} (h : ∀ x ∈ l,(Lit.int .i8 x.f0).wf = true ∧ (Lit.int .i8 x.f1).wf = true ∧ (Lit.int .i8 x.f2).wf = true) : ∀ x ∈ l.map faultOf,(Lit.int .i8 x.f0).wf = true ∧ (Lit.int .i8 x.f1).wf = true ∧ (Lit.int .i8 x.f2).wf = true := by
 intro x hx
 obtain ⟨y,hy,rfl⟩ := List.mem_map.1 hx
 exact h y hy
end Go.Proofs.Ytheenidapjkboaa.G.Pure
end

section
namespace Go.Proofs.Ytheenidapjkboaa.G.Pure
open Go.RowKit Go.Proofs.Ytheenidapjkboaa.G Go.Proofs.YtheenidapjkboaaW.PrintWords Go.Proofs.YtheenidapjkboaaW.PrintLast Go.Proofs.YtheenidapjkboaaW.PrintMore
set_option linter.unusedVariables false
set_option linter.unusedSimpArgs false
theorem loop_inv2 {σ γ : Type} (L : Nat → σ → Option γ) (n K0 : Nat) (I : Nat → σ → Prop) (R : γ → Prop)
  (hs : ∀ k i s,i < n → K0 ≤ k → I i s → (∃ s',I (i + 1) s' ∧ L (k + 1) s = L k s') ∨ (∃ r,R r ∧ L (k + 1) s = some r))
  (he : ∀ k s,K0 ≤ k → I n s → ∃ r,R r ∧ L (k + 1) s = some r) : ∀ k s,I 0 s → n + K0 < k → ∃ r,R r ∧ L k s = some r := by
 have go : ∀ d i k s,i + d = n → I i s → d + K0 < k → ∃ r,R r ∧ L k s = some r := by
  intro d
  induction d with
  | zero =>
   intro i k s hi hI hk
   obtain ⟨k,rfl⟩ : ∃ m,k = m + 1 := ⟨k - 1,by omega⟩
   obtain rfl : i = n := by omega
   exact he k s (by omega) hI
  | succ d ih =>
   intro i k s hi hI hk
   obtain ⟨k,rfl⟩ : ∃ m,k = m + 1 := ⟨k - 1,by omega⟩
   rcases hs k i s (by omega) (by omega) hI with ⟨s',hI',h⟩ | h
   ·rw [h]
    exact ih (i + 1) k s' (by omega) hI' (by omega)
   ·exact h
 intro k s hI hk
 exact go n 0 k s (by omega) hI (by omega)
end Go.Proofs.Ytheenidapjkboaa.G.Pure
end

section
namespace Go.Proofs.Ytheenidapjkboaa.G.Pure
open Go.RowKit Go.Proofs.Ytheenidapjkboaa.G Go.Proofs.YtheenidapjkboaaW.PrintWords Go.Proofs.YtheenidapjkboaaW.PrintLast Go.Proofs.YtheenidapjkboaaW.PrintMore
set_option linter.unusedVariables false
set_option linter.unusedSimpArgs false
theorem eq_loop (L : Nat → Int → Option Bool) (a b : List Int) (hlen : a.length = b.length)
  (hs : ∀ k i,i < a.length → L (k + 1) (i : Int) = if rd a (i : Int) = rd b (i : Int) then L k ((i + 1 : Nat) : Int) else some false) (he : ∀ k,L (k + 1) (a.length : Int) = some true) : ∀ k,a.length < k → L k 0 = some (decide (a = b)) := by
 intro k hk
 obtain ⟨r,hr,h⟩ := loop_inv L a.length (fun i s => s = (i : Int) ∧ ∀ j (h : j < a.length),j < i → a[j] = b[j]) (fun r => r = decide (a = b))
  (fun k i s hi ⟨h1,h2⟩ => by
   subst h1
   rw [hs k i hi,rd_nat hi,rd_nat (by omega)]
   by_cases h : a[i] = b[i]
   ·rw [if_pos h]
    refine .inl ⟨((i + 1 : Nat) : Int),⟨rfl,fun j hj hji => ?_⟩,rfl⟩
    rcases Nat.lt_succ_iff_lt_or_eq.1 hji with e | e
    ·exact h2 j hj e
    ·subst e
     exact h
   ·rw [if_neg h]
    refine .inr ⟨false,?_,rfl⟩
    rw [decide_eq_false]
    rintro rfl
    exact h rfl)
  (fun k s ⟨h1,h2⟩ => by
   subst h1
   refine ⟨true,?_,he k⟩
   rw [decide_eq_true]
   exact List.ext_getElem hlen fun j h1 h3 => h2 j h1 h1) k 0 ⟨rfl,fun j _ h => absurd h (Nat.not_lt_zero _)⟩ hk
 subst hr
 exact h
theorem eqHoist_self (k : Nat) (a : List Int) (hl : a.length ≤ 1048576) (hk : a.length < k) : laws_eqHoist.f k a a = some true := by
 unfold laws_eqHoist.f
 rw [if_pos rfl]
 have e := eq_loop (fun k i => laws_eqHoist.l0 k a a i) a a rfl (fun k i hi => by
  simp only [laws_eqHoist.l0]
  rw [if_pos (by omega),if_pos (by omega),if_pos (by omega),w64 (by omega) (by omega)]
  rfl) (fun k => by
  simp only [laws_eqHoist.l0]
  rw [if_neg (by omega)]) k hk
 rw [e]
 simp
theorem toHoist_eq (k : Nat) (l : List Int) (hl : l.length ≤ 1048576) (hk : l.length < k) : laws_toHoist.f k l = some l := by
 unfold laws_toHoist.f
 rw [if_pos (by omega),if_pos (by omega)]
 obtain ⟨r,hr,h⟩ := loop_inv (fun k (s : List Int × Int) => laws_toHoist.l0 k l s.1 s.2) l.length (fun i s => s.2 = (i : Int) ∧ s.1.length = l.length ∧ s.1.take i = l.take i) (fun r => r = l)
  (fun k i s hi ⟨h1,h2,h3⟩ => by
   obtain ⟨acc,x⟩ := s
   simp only at h1 h2 h3
   subst h1
   refine .inl ⟨(acc.set i l[i],((i + 1 : Nat) : Int)),⟨rfl,by simpa using h2,?_⟩,?_⟩
   ·rw [take_set_succ (by omega),h3,List.take_succ_eq_append_getElem hi]
   ·simp only [laws_toHoist.l0]
    rw [if_pos (by omega),if_pos (by omega),if_pos (by omega),rd_nat hi,w64 (by omega) (by omega)]
    rfl)
  (fun k s ⟨h1,h2,h3⟩ => by
   obtain ⟨acc,x⟩ := s
   simp only at h1 h2 h3
   subst h1
   refine ⟨acc,?_,?_⟩
   ·rw [List.take_of_length_le (by omega),List.take_of_length_le (by omega)] at h3
    exact h3
   ·simp only [laws_toHoist.l0]
    rw [if_neg (by omega)]) k (List.replicate l.length 0,0) ⟨rfl,by simp,by simp⟩ hk
 subst hr
 simpa using h
abbrev Hs := List (List Int)
theorem rdH {l : Hs} {i : Nat} (h : i < l.length) : rd_L2 l (i : Int) = l[i] := by
 simp [rd_L2,List.getD_eq_getElem?_getD,List.getElem?_eq_getElem h]
theorem eqHoistS_self {k : Nat} {l : Hs} (hl : l.length ≤ 1048576) (hi : ∀ x ∈ l,x.length ≤ 1048576) (hk : 2200000 < k) : laws_eqHoistS.f k l l = some true := by
 unfold laws_eqHoistS.f
 rw [if_pos rfl]
 obtain ⟨r,hr,h⟩ := loop_inv2 (fun k (s : Int) => laws_eqHoistS.l0 k l l s) l.length 1048577 (fun i s => s = (i : Int)) (fun r => r = true)
  (fun k i s hil hk h1 => by
   subst h1
   refine .inl ⟨((i + 1 : Nat) : Int),rfl,?_⟩
   simp only [laws_eqHoistS.l0]
   rw [if_pos (by omega),if_pos (by omega),if_pos (by omega),rdH hil,eqHoist_self k _ (hi _ (List.getElem_mem hil)) (by have := hi _ (List.getElem_mem hil);omega)]
   simp only [Option.bind_some,if_true]
   rw [w64 (by omega) (by omega)]
   rfl)
  (fun k s hk h1 => by
   subst h1
   refine ⟨true,rfl,?_⟩
   simp only [laws_eqHoistS.l0]
   rw [if_neg (by omega)]) k 0 rfl (by omega)
 subst hr
 exact h
end Go.Proofs.Ytheenidapjkboaa.G.Pure
end

section
namespace Go.Proofs.Ytheenidapjkboaa.G.Pure
open Go.RowKit Go.Proofs.Ytheenidapjkboaa.G Go.Proofs.YtheenidapjkboaaW.PrintWords Go.Proofs.YtheenidapjkboaaW.PrintLast Go.Proofs.YtheenidapjkboaaW.PrintMore
set_option linter.unusedVariables false
set_option linter.unusedSimpArgs false
abbrev Sp := S109
abbrev Tm := S106
def scan (pre : List Tm) (a : Nat) : Nat → Int × Int
 | 0 => (-1,-1)
 | n + 1 => match scan pre a n with
  | (f,s) => match pre[a + n]? with
   | some t => if 0 ≤ t.f3 ∧ (f < 0 ∨ t.f3 < s) then (((a + n : Nat) : Int),t.f3) else (f,s)
   | none => (f,s)
def dueL (pre : List Tm) (x : Sp) (read : Int) : Tm :=
 if pre.length = 0 then ⟨-1,0,0,x.f2⟩ else
  match scan pre (pre.length - x.f0.toNat) (pre.length - (pre.length - x.f0.toNat)) with
  | (f,s) => if 0 ≤ f then ⟨f,s,s + read,s + read + x.f2⟩ else ⟨-1,-1,-1,-1⟩
def timesGo (ship more : Int) : List Sp → List Tm → List Tm
 | [],acc => acc
 | x :: xs,acc => timesGo ship more xs (acc ++ [dueL acc x (x.f1 + if (acc.length : Int) = ship then more else 0)])
def timesL (ship more : Int) (l : List Sp) : List Tm := timesGo ship more l []
structure TimesOK (ts : List Tm) : Prop where
 first : ∀ t,ts[0]? = some t → t.f0 = -1 ∧ t.f1 = 0 ∧ t.f2 = 0 ∧ 0 ≤ t.f3
 bound : ∀ (i : Nat) t,ts[i]? = some t → t.f3 ≤ 200 * ((i : Int) + 1) ∧ t.f2 ≤ t.f3 ∧ t.f1 ≤ t.f2
 later : ∀ (i : Nat) t,ts[i]? = some t → 0 < i → (t = ⟨-1,-1,-1,-1⟩) ∨ (0 ≤ t.f0 ∧ t.f0 < (i : Int) ∧ 0 ≤ t.f1 ∧ ∃ u,ts[t.f0.toNat]? = some u ∧ u.f3 = t.f1)
theorem TimesOK.nil : TimesOK [] := ⟨fun t h => by simp at h,fun i t h => by simp at h,fun i t h => by simp at h⟩
theorem scan_spec (pre : List Tm) (hok : TimesOK pre) (a n : Nat) (h : a + n ≤ pre.length) :
  (scan pre a n = (-1,-1) ∨ (0 ≤ (scan pre a n).1 ∧ (scan pre a n).1 < ((a + n : Nat) : Int) ∧ 0 ≤ (scan pre a n).2 ∧ (scan pre a n).2 ≤ 200 * ((a + n : Nat) : Int) ∧ ∃ u,pre[(scan pre a n).1.toNat]? = some u ∧ u.f3 = (scan pre a n).2)) := by
 induction n with
 | zero => exact .inl rfl
 | succ n ih =>
  have hi : a + n < pre.length := by omega
  have e : pre[a + n]? = some pre[a + n] := List.getElem?_eq_getElem hi
  have hb := hok.bound _ _ e
  obtain ih := ih (by omega)
  rcases hs : scan pre a n with ⟨f,s⟩
  rw [hs] at ih
  simp only [scan,hs,e]
  split
  ·right
   exact ⟨by simp only;omega,by simp only;omega,by simp only;omega,by simp only;omega,pre[a + n],by show pre[((a + n : Nat) : Int).toNat]? = _;rw [Int.toNat_natCast];exact e,rfl⟩
  ·rcases ih with ih | ih
   ·exact .inl ih
   ·right
    exact ⟨ih.1,by omega,ih.2.2.1,by omega,ih.2.2.2.2⟩
def shipIn (x : Sp) : Prop := 0 ≤ x.f0 ∧ x.f0 ≤ 6 ∧ 0 ≤ x.f1 ∧ x.f1 ≤ 120 ∧ 0 ≤ x.f2 ∧ x.f2 ≤ 60
theorem due_ok {pre : List Tm} (hok : TimesOK pre) {x : Sp} {read : Int} (h2 : 0 ≤ x.f2 ∧ x.f2 ≤ 60) (hr : 0 ≤ read ∧ read ≤ 120) : TimesOK (pre ++ [dueL pre x read]) := by
 have hs := scan_spec pre hok (pre.length - x.f0.toNat) (pre.length - (pre.length - x.f0.toNat)) (by omega)
 rw [show pre.length - x.f0.toNat + (pre.length - (pre.length - x.f0.toNat)) = pre.length by omega] at hs
 unfold dueL
 rcases hsc : scan pre (pre.length - x.f0.toNat) (pre.length - (pre.length - x.f0.toNat)) with ⟨f,s⟩
 rw [hsc] at hs
 simp only at hs
 refine ⟨fun t ht => ?_,fun i t ht => ?_,fun i t ht hi => ?_⟩
 ·rcases Nat.eq_zero_or_pos pre.length with h0 | h0
  ·rw [List.getElem?_append_right (by omega),if_pos h0] at ht
   simp [h0] at ht
   subst ht
   exact ⟨rfl,rfl,rfl,h2.1⟩
  ·rw [List.getElem?_append_left h0] at ht
   exact hok.first t ht
 ·rcases Nat.lt_or_ge i pre.length with hi | hi
  ·rw [List.getElem?_append_left hi] at ht
   exact hok.bound i t ht
  ·rw [List.getElem?_append_right hi] at ht
   have h0 : i - pre.length = 0 := by
    rcases Nat.eq_zero_or_pos (i - pre.length) with h | h
    ·exact h
    ·rw [List.getElem?_eq_none (by simp;omega)] at ht
     cases ht
   rw [h0] at ht
   simp only [List.getElem?_cons_zero,Option.some.injEq] at ht
   split at ht
   ·subst ht
    simp only
    omega
   ·split at ht
    ·subst ht
     rcases hs with hs | hs
     ·simp only [Prod.mk.injEq] at hs
      omega
     ·simp only
      omega
    ·subst ht
     simp only
     omega
 ·rcases Nat.lt_or_ge i pre.length with hl | hl
  ·rw [List.getElem?_append_left hl] at ht
   rcases hok.later i t ht hi with h | ⟨h1,h2,h3,u,hu,h4⟩
   ·exact .inl h
   ·refine .inr ⟨h1,h2,h3,u,?_,h4⟩
    rw [List.getElem?_append_left (by omega)]
    exact hu
  ·rw [List.getElem?_append_right hl] at ht
   have h0 : i - pre.length = 0 := by
    rcases Nat.eq_zero_or_pos (i - pre.length) with h | h
    ·exact h
    ·rw [List.getElem?_eq_none (by simp;omega)] at ht
     cases ht
   rw [h0] at ht
   simp only [List.getElem?_cons_zero,Option.some.injEq] at ht
   rw [if_neg (by omega)] at ht
   split at ht
   ·rcases hs with hs | ⟨h1,h2,h3,h4,u,hu,h5⟩
    ·simp only [Prod.mk.injEq] at hs
     omega
    ·subst ht
     refine .inr ⟨h1,by simp only;omega,h3,u,?_,h5⟩
     simp only
     rw [List.getElem?_append_left (by omega)]
     exact hu
   ·exact .inl ht.symm
theorem timesGo_len (ship more : Int) : ∀ (l : List Sp) (acc : List Tm),(timesGo ship more l acc).length = acc.length + l.length
 | [],acc => by simp [timesGo]
 | x :: xs,acc => by
  simp only [timesGo]
  rw [timesGo_len ship more xs]
  simp
  omega
theorem timesL_len (ship more : Int) (l : List Sp) : (timesL ship more l).length = l.length := by
 simp [timesL,timesGo_len]
theorem timesGo_ok (ship more : Int) : ∀ (l : List Sp) (acc : List Tm),TimesOK acc → (∀ x ∈ l,0 ≤ x.f2 ∧ x.f2 ≤ 60) → (∀ i x,l[i]? = some x → 0 ≤ x.f1 + (if ((acc.length + i : Nat) : Int) = ship then more else 0) ∧ x.f1 + (if ((acc.length + i : Nat) : Int) = ship then more else 0) ≤ 120) → TimesOK (timesGo ship more l acc)
 | [],acc,h,_,_ => h
 | x :: xs,acc,h,h2,hr => by
  simp only [timesGo]
  have h0 := hr 0 x rfl
  refine timesGo_ok ship more xs _ (due_ok h (h2 x (by simp)) (by simpa using h0)) (fun y hy => h2 y (by simp [hy])) (fun i y hy => ?_)
  have := hr (i + 1) y (by simpa using hy)
  simp only [List.length_append,List.length_singleton]
  rw [show acc.length + 1 + i = acc.length + (i + 1) by omega]
  exact this
end Go.Proofs.Ytheenidapjkboaa.G.Pure
end

section
namespace Go.Proofs.Ytheenidapjkboaa.G.Pure
open Go.RowKit Go.Proofs.Ytheenidapjkboaa.G Go.Proofs.YtheenidapjkboaaW.PrintWords Go.Proofs.YtheenidapjkboaaW.PrintLast Go.Proofs.YtheenidapjkboaaW.PrintMore
set_option linter.unusedVariables false
set_option linter.unusedSimpArgs false
def wfShip (x : Sp) : Prop := (Lit.int .i8 x.f0).wf = true ∧ (Lit.int .i8 x.f1).wf = true ∧ (Lit.int .i8 x.f2).wf = true
def validB (l : List Sp) : Bool := decide (1 ≤ (l.length : Int)) && decide ((l.length : Int) ≤ 20) && !l.any shipBad
theorem implValid_eq (l : List Sp) : impl_ValidLine.f l = some (validB l) := rfl
theorem shipBad_wf {x : Sp} (h : wfShip x) : shipBad x = !(decide (0 ≤ x.f0) && decide (x.f0 ≤ 6) && (decide (0 ≤ x.f1) && decide (x.f1 ≤ 60)) && (decide (0 ≤ x.f2) && decide (x.f2 ≤ 60))) := by
 obtain ⟨h0,h1,h2⟩ := h
 have b0 := i8b h0
 have b1 := i8b h1
 have b2 := i8b h2
 unfold shipBad
 rw [w64 (n := x.f0) (by omega) (by omega),w64 (n := x.f1) (by omega) (by omega),w64 (n := x.f2) (by omega) (by omega)]
structure ValidL (l : List Sp) : Prop where
 pos : 1 ≤ l.length
 most : l.length ≤ 20
 ships : ∀ x ∈ l,0 ≤ x.f0 ∧ x.f0 ≤ 6 ∧ 0 ≤ x.f1 ∧ x.f1 ≤ 60 ∧ 0 ≤ x.f2 ∧ x.f2 ≤ 60
theorem ValidL.in_ {l : List Sp} (h : ValidL l) : ∀ x ∈ l,shipIn x := fun x hx => by
 have := h.ships x hx
 unfold shipIn
 omega
theorem validB_iff {l : List Sp} (hw : ∀ x ∈ l,wfShip x) : validB l = true ↔ ValidL l := by
 constructor
 ·intro h
  unfold validB at h
  simp only [Bool.and_eq_true,decide_eq_true_eq,Bool.not_eq_true',List.any_eq_false] at h
  obtain ⟨⟨h1,h2⟩,h3⟩ := h
  refine ⟨by omega,by omega,fun x hx => ?_⟩
  have h4 := h3 x hx
  rw [shipBad_wf (hw x hx)] at h4
  simp at h4
  omega
 ·intro h
  unfold validB
  simp only [Bool.and_eq_true,decide_eq_true_eq,Bool.not_eq_true',List.any_eq_false]
  refine ⟨⟨by have := h.pos;omega,by have := h.most;omega⟩,fun x hx => ?_⟩
  rw [shipBad_wf (hw x hx)]
  have := h.ships x hx
  simp
  omega
theorem in_eq (n lo hi : Int) : spec_l00In.f n lo hi = some (decide (lo ≤ n) && decide (n ≤ hi)) := by
 unfold spec_l00In.f
 split
 ·simp [*]
 ·simp [*]
theorem specOk_eq (k : Nat) (l : List Sp) (hw : ∀ x ∈ l,wfShip x) (hl : l.length ≤ 1048576) (hk : l.length < k) : spec_l06Ok.f k l = some (validB l) := by
 unfold spec_l06Ok.f validB
 rw [in_eq]
 simp only [Option.bind_some]
 by_cases h0 : (decide (1 ≤ (l.length : Int)) && decide ((l.length : Int) ≤ 20)) = true
 ·rw [if_pos h0,h0,Bool.true_and]
  obtain ⟨r,hr,h⟩ := loop_inv (fun k (s : Int) => spec_l06Ok.l0 k l s) l.length (fun i s => s = (i : Int) ∧ ∀ j (h : j < l.length),j < i → shipBad l[j] = false) (fun r => r = !l.any shipBad)
   (fun k i s hi ⟨h1,h2⟩ => by
    subst h1
    have hb := hw l[i] (List.getElem_mem hi)
    have hbad := shipBad_wf hb
    obtain ⟨b0,b1,b2⟩ := hb
    have b0 := i8b b0
    have b1 := i8b b1
    have b2 := i8b b2
    cases hq : shipBad l[i] with
    | true =>
     refine .inr ⟨false,?_,?_⟩
     ·have : l.any shipBad = true := List.any_eq_true.2 ⟨l[i],List.getElem_mem hi,hq⟩
      rw [this];rfl
     ·simp only [spec_l06Ok.l0]
      rw [if_pos (by omega),if_pos (by omega),rd_impl_Ship hi,in_eq,in_eq,in_eq]
      rw [w64 (n := (l[i]).f0) (by omega) (by omega),w64 (n := (l[i]).f1) (by omega) (by omega),w64 (n := (l[i]).f2) (by omega) (by omega)]
      rw [hq] at hbad
      simp only [Option.bind_some]
      generalize (decide (0 ≤ (l[i]).f0) && decide ((l[i]).f0 ≤ 6)) = c0 at *
      generalize (decide (0 ≤ (l[i]).f1) && decide ((l[i]).f1 ≤ 60)) = c1 at *
      generalize (decide (0 ≤ (l[i]).f2) && decide ((l[i]).f2 ≤ 60)) = c2 at *
      cases c0 <;> cases c1 <;> cases c2 <;> first | (exfalso;revert hbad;decide) | rfl
    | false =>
     refine .inl ⟨((i + 1 : Nat) : Int),⟨rfl,fun j hj hji => ?_⟩,?_⟩
     ·by_cases e : j = i
      ·subst e;exact hq
      ·exact h2 j hj (by omega)
     ·simp only [spec_l06Ok.l0]
      rw [if_pos (by omega),if_pos (by omega),rd_impl_Ship hi,in_eq,in_eq,in_eq]
      rw [w64 (n := (l[i]).f0) (by omega) (by omega),w64 (n := (l[i]).f1) (by omega) (by omega),w64 (n := (l[i]).f2) (by omega) (by omega),w64 (n := (i : Int) + 1) (by omega) (by omega)]
      rw [hq] at hbad
      simp only [Option.bind_some]
      generalize (decide (0 ≤ (l[i]).f0) && decide ((l[i]).f0 ≤ 6)) = c0 at *
      generalize (decide (0 ≤ (l[i]).f1) && decide ((l[i]).f1 ≤ 60)) = c1 at *
      generalize (decide (0 ≤ (l[i]).f2) && decide ((l[i]).f2 ≤ 60)) = c2 at *
      cases c0 <;> cases c1 <;> cases c2 <;> first | (exfalso;revert hbad;decide) | rfl)
   (fun k s ⟨h1,h2⟩ => by
    subst h1
    refine ⟨true,?_,?_⟩
    ·have : l.any shipBad = false := by
      rw [List.any_eq_false]
      intro x hx
      obtain ⟨j,hj,rfl⟩ := List.mem_iff_getElem.1 hx
      simp [h2 j hj hj]
     rw [this];rfl
    ·simp only [spec_l06Ok.l0]
     rw [if_neg (by omega)]) k 0 ⟨rfl,fun j _ h => absurd h (Nat.not_lt_zero _)⟩ hk
  subst hr
  exact h
 ·rw [if_neg h0]
  simp only [Bool.not_eq_true] at h0
  rw [h0,Bool.false_and]
theorem wf_map {l : List (S111)} (h : ∀ x ∈ l,(Lit.int .i8 x.f0).wf = true ∧ (Lit.int .i8 x.f1).wf = true ∧ (Lit.int .i8 x.f2).wf = true) : ∀ x ∈ l.map shipOf,wfShip x := by
 intro x hx
 obtain ⟨y,hy,rfl⟩ := List.mem_map.1 hx
 exact h y hy
end Go.Proofs.Ytheenidapjkboaa.G.Pure
end

section
namespace Go.Proofs.Ytheenidapjkboaa.G.Pure
open Go.RowKit Go.Proofs.Ytheenidapjkboaa.G Go.Proofs.YtheenidapjkboaaW.PrintWords Go.Proofs.YtheenidapjkboaaW.PrintLast Go.Proofs.YtheenidapjkboaaW.PrintMore
set_option linter.unusedVariables false
set_option linter.unusedSimpArgs false
def mstep (n : Int) (s : List Int × Nat) : Option (List Int × Nat) :=
  if n = -10 then (if s.2 = s.1.length then none else some (s.1 ++ [n], s.1.length + 1))
  else if -4 ≤ n ∧ n ≤ -1 then (if s.2 + (-n).toNat - 1 < s.1.length then some (s.1 ++ [rd s.1 ((s.2 + (-n).toNat - 1 : Nat) : Int)], s.2) else none)
  else if 0 ≤ n ∧ n ≤ 39 then some (s.1 ++ [n], s.2) else none
def mto (h : List Int) : Nat → Option (List Int × Nat)
  | 0 => some ([], 0)
  | n + 1 => (mto h n).bind (mstep (rd h (n : Int)))
def MOk (s : List Int × Nat) (n : Nat) : Prop := s.1.length = n ∧ s.2 ≤ n ∧ ∀ j (h : j < s.1.length), s.2 ≤ j → 0 ≤ s.1[j] ∧ s.1[j] ≤ 39
theorem mto_ok {h : List Int} : ∀ n {s : List Int × Nat}, mto h n = some s → MOk s n := by
  intro n
  induction n with
  | zero => intro s hs; cases hs; exact ⟨rfl, Nat.le_refl _, fun j h => by simp at h⟩
  | succ n ih =>
    intro s hs
    rw [mto] at hs
    obtain ⟨s0, h0, h1⟩ := Option.bind_eq_some_iff.1 hs
    obtain ⟨i1, i2, i3⟩ := ih h0
    unfold mstep at h1
    split at h1
    · split at h1
      · cases h1
      · cases h1
        refine ⟨by simp [i1], by simp only; omega, fun j hj h => ?_⟩
        simp only [List.length_append, List.length_singleton] at hj h
        omega
    · split at h1
      · split at h1
        · rename_i hin
          cases h1
          refine ⟨by simp [i1], by simp only; omega, fun j hj h => ?_⟩
          simp only [List.length_append, List.length_singleton] at hj h
          rcases Nat.lt_or_ge j s0.1.length with e | e
          · simp only [List.getElem_append_left e]
            exact i3 j e h
          · obtain rfl : j = s0.1.length := by omega
            simp only [List.getElem_append_right (Nat.le_refl _), Nat.sub_self, List.getElem_cons_zero]
            rw [rd_nat hin]
            exact i3 _ hin (by omega)
        · cases h1
      · split at h1
        · rename_i hk
          cases h1
          refine ⟨by simp [i1], by simp only; omega, fun j hj h => ?_⟩
          simp only [List.length_append, List.length_singleton] at hj h
          rcases Nat.lt_or_ge j s0.1.length with e | e
          · simp only [List.getElem_append_left e]
            exact i3 j e h
          · obtain rfl : j = s0.1.length := by omega
            simp only [List.getElem_append_right (Nat.le_refl _), Nat.sub_self, List.getElem_cons_zero]
            exact hk
        · cases h1
theorem mto_none {h : List Int} {i n : Nat} (hh : mto h i = none) (hi : i ≤ n) : mto h n = none := by
  induction n with
  | zero => obtain rfl : i = 0 := by omega
            exact hh
  | succ n ih =>
    rcases Nat.lt_or_ge i (n + 1) with h1 | h1
    · rw [mto, ih (by omega)]
      rfl
    · obtain rfl : i = n + 1 := by omega
      exact hh
def meanO (h : List Int) : Option (List Int) := if 1 ≤ h.length ∧ h.length ≤ 8 then (match mto h h.length with | some s => if s.2 < s.1.length then some s.1 else none | none => none) else none
theorem kind_eq (n : Int) (h0 : -128 ≤ n) (h1 : n ≤ 127) : impl_isKind.f n = some (decide (0 ≤ n) && decide (n ≤ 39)) := by
  unfold impl_isKind.f impl_within.f
  rw [w64 (by omega) (by omega)]
  by_cases h : 0 ≤ n <;> simp [h]
theorem within8 (n lo hi : Int) : impl_within.f n lo hi = some (decide (lo ≤ n) && decide (n ≤ hi)) := by
  unfold impl_within.f
  split <;> simp [*]
def wfH (h : List Int) : Prop := ∀ x ∈ h, (Lit.int .i8 x).wf = true
theorem wfH_at {h : List Int} (hw : wfH h) {i : Nat} (hi : i < h.length) : -128 ≤ rd h (i : Int) ∧ rd h (i : Int) ≤ 127 := by
  rw [rd_nat hi]
  exact i8b (hw _ (List.getElem_mem hi))
theorem mean_A {h : List Int} (hl : h.length ≤ 1048576) {i : Nat} (hi : i < h.length) {a : List Int} {g : Nat} (o1 : a.length = i) (o2 : g ≤ i) (K1 : Nat) (hn : rd h (i : Int) = -10) :
    impl_Hoist_meaning.l0 (K1 + 1) h a (g : Int) h (h.length : Int) (i : Int) = if g = a.length then some ([], false) else impl_Hoist_meaning.l0 K1 h (a ++ [rd h (i : Int)]) ((a.length + 1 : Nat) : Int) h (h.length : Int) ((i + 1 : Nat) : Int) := by
  rw [show ((i + 1 : Nat) : Int) = (i : Int) + 1 by omega]
  simp only [impl_Hoist_meaning.l0]
  rw [if_pos (by omega), if_pos (by omega), if_pos (by omega), if_pos hn]
  by_cases hg : g = a.length
  · rw [if_pos hg, if_pos (by omega)]
  · rw [if_neg hg, if_neg (by omega), if_pos (by omega)]
    simp only [Option.bind_some]
    rw [w64 (by omega) (by omega), List.length_append, List.length_singleton]
theorem mean_j {K : Nat} {h a : List Int} {g : Nat} {i : Nat} {n : Int} (hl : h.length ≤ 1048576) (hi : i < h.length) (o1 : a.length = i) (x8 : Int) (hn : -128 ≤ n ∧ n ≤ 127) :
    impl_Hoist_meaning.j1 (K + 1) h a (g : Int) n x8 h (h.length : Int) (i : Int) false = if 0 ≤ n ∧ n ≤ 39 then impl_Hoist_meaning.l0 K h (a ++ [n]) (g : Int) h (h.length : Int) ((i + 1 : Nat) : Int) else some ([], false) := by
  rw [show ((i + 1 : Nat) : Int) = (i : Int) + 1 by omega]
  simp only [impl_Hoist_meaning.j1]
  rw [if_neg (by simp), kind_eq _ (by omega) (by omega)]
  simp only [Option.bind_some]
  by_cases hk : 0 ≤ n ∧ n ≤ 39
  · rw [if_pos hk, if_pos (by simp [hk]), if_pos (by omega), w64 (by omega) (by omega)]
  · rw [if_neg hk, if_neg (by simpa using hk)]
theorem mean_jt {K : Nat} {h a : List Int} {g : Nat} {i : Nat} {n : Int} (hl : h.length ≤ 1048576) (hi : i < h.length) (o1 : a.length = i) {p : Nat} (hp : p < a.length) (hk : 0 ≤ a[p] ∧ a[p] ≤ 39) :
    impl_Hoist_meaning.j1 (K + 1) h a (g : Int) n (p : Int) h (h.length : Int) (i : Int) true = impl_Hoist_meaning.l0 K h (a ++ [rd a (p : Int)]) (g : Int) h (h.length : Int) ((i + 1 : Nat) : Int) := by
  rw [show ((i + 1 : Nat) : Int) = (i : Int) + 1 by omega]
  simp only [impl_Hoist_meaning.j1]
  rw [if_pos trivial, if_pos (by omega), if_pos (by omega), rd_nat hp, kind_eq _ (by omega) (by omega)]
  simp only [Option.bind_some]
  rw [if_pos (by simp [hk]), if_pos (by omega), w64 (by omega) (by omega)]
theorem mean_l {K : Nat} {h a : List Int} {g : Nat} {i : Nat} (hl : h.length ≤ 1048576) (hi : i < h.length) (o1 : a.length = i) (o2 : g ≤ i) (hb : -128 ≤ rd h (i : Int) ∧ rd h (i : Int) ≤ 127) (hn : ¬rd h (i : Int) = -10) :
    impl_Hoist_meaning.l0 (K + 1) h a (g : Int) h (h.length : Int) (i : Int) = if -4 ≤ rd h (i : Int) ∧ rd h (i : Int) ≤ -1 then impl_Hoist_meaning.j1 K h a (g : Int) (rd h (i : Int)) ((g : Int) - rd h (i : Int) - 1) h (h.length : Int) (i : Int) (decide ((g : Int) - rd h (i : Int) - 1 < (a.length : Int))) else impl_Hoist_meaning.j1 K h a (g : Int) (rd h (i : Int)) ((g : Int) - rd h (i : Int) - 1) h (h.length : Int) (i : Int) false := by
  generalize hr : impl_Hoist_meaning.j1 K = J
  simp only [impl_Hoist_meaning.l0]
  rw [if_pos (by omega), if_pos (by omega), if_pos (by omega), if_neg hn, within8, w64 (n := rd h (i : Int)) (by omega) (by omega), w64 (n := (g : Int) - rd h (i : Int)) (by omega) (by omega), w64 (n := (g : Int) - rd h (i : Int) - 1) (by omega) (by omega), hr]
  simp only [Option.bind_some]
  by_cases hsub : -4 ≤ rd h (i : Int) ∧ rd h (i : Int) ≤ -1
  · rw [if_pos hsub, if_pos (by simp [hsub])]
  · rw [if_neg hsub, if_neg (by simpa using hsub)]
theorem implMean_step {h : List Int} (hw : wfH h) (hl : h.length ≤ 1048576) {i : Nat} (hi : i < h.length) {s : List Int × Nat} (hs : mto h i = some s) (K : Nat) :
    impl_Hoist_meaning.l0 (K + 2) h s.1 (s.2 : Int) h (h.length : Int) (i : Int) = some ([], false) ∧ mto h (i + 1) = none ∨ ∃ s', mto h (i + 1) = some s' ∧ ∃ K', (K' = K ∨ K' = K + 1) ∧ impl_Hoist_meaning.l0 (K + 2) h s.1 (s.2 : Int) h (h.length : Int) (i : Int) = impl_Hoist_meaning.l0 K' h s'.1 (s'.2 : Int) h (h.length : Int) ((i + 1 : Nat) : Int) := by
  obtain ⟨o1, o2, o3⟩ := mto_ok i hs
  have hb := wfH_at hw hi
  have hm : mto h (i + 1) = mstep (rd h (i : Int)) s := by rw [mto, hs, Option.bind_some]
  rw [hm]
  unfold mstep
  by_cases hn : rd h (i : Int) = -10
  · rw [if_pos hn, mean_A hl hi o1 o2 (K + 1) hn]
    by_cases hg : s.2 = s.1.length
    · rw [if_pos hg, if_pos hg]
      exact .inl (And.intro (Eq.refl _) (Eq.refl _))
    · rw [if_neg hg, if_neg hg]
      exact .inr (Exists.intro _ (And.intro (Eq.refl _) (Exists.intro (K + 1) (And.intro (.inr (Eq.refl _)) (Eq.refl _)))))
  · rw [if_neg hn, mean_l hl hi o1 o2 hb hn]
    by_cases hsub : -4 ≤ rd h (i : Int) ∧ rd h (i : Int) ≤ -1
    · rw [if_pos hsub, if_pos hsub]
      have hat : (s.2 : Int) - rd h (i : Int) - 1 = ((s.2 + (-rd h (i : Int)).toNat - 1 : Nat) : Int) := by omega
      rw [hat]
      by_cases hlt : s.2 + (-rd h (i : Int)).toNat - 1 < s.1.length
      · have hk := o3 _ hlt (by omega)
        rw [if_pos hlt, decide_eq_true (by omega : ((s.2 + (-rd h (i : Int)).toNat - 1 : Nat) : Int) < (s.1.length : Int)), mean_jt hl hi o1 hlt hk]
        exact .inr (Exists.intro _ (And.intro (Eq.refl _) (Exists.intro K (And.intro (.inl (Eq.refl _)) (Eq.refl _)))))
      · rw [if_neg hlt, decide_eq_false (by omega : ¬((s.2 + (-rd h (i : Int)).toNat - 1 : Nat) : Int) < (s.1.length : Int)), mean_j hl hi o1 _ hb, if_neg (by omega)]
        exact .inl (And.intro (Eq.refl _) (Eq.refl _))
    · rw [if_neg hsub, if_neg hsub, mean_j hl hi o1 _ hb]
      by_cases hk : 0 ≤ rd h (i : Int) ∧ rd h (i : Int) ≤ 39
      · rw [if_pos hk, if_pos hk]
        exact .inr (Exists.intro _ (And.intro (Eq.refl _) (Exists.intro K (And.intro (.inl (Eq.refl _)) (Eq.refl _)))))
      · rw [if_neg hk, if_neg hk]
        exact .inl (And.intro (Eq.refl _) (Eq.refl _))
theorem implMean_all {h : List Int} (hw : wfH h) (hl : h.length ≤ 1048576) : ∀ d i s K, i + d = h.length → mto h i = some s → 2 * d + 1 ≤ K → ∃ o, impl_Hoist_meaning.l0 K h s.1 (s.2 : Int) h (h.length : Int) (i : Int) = some (o, (meanO h).isSome) ∧ (∀ m, meanO h = some m → o = m) := by
  intro d
  induction d with
  | zero =>
    intro i s K hi hs hK
    obtain ⟨K, rfl⟩ : ∃ m, K = m + 1 := ⟨K - 1, by omega⟩
    obtain rfl : i = h.length := by omega
    simp only [impl_Hoist_meaning.l0]
    rw [if_neg (by omega)]
    simp only [impl_size_int8.f, Option.bind_some, within8]
    unfold meanO
    rw [hs]
    by_cases hin : 1 ≤ h.length ∧ h.length ≤ 8
    · rw [if_pos hin, if_pos (by simp; omega)]
      by_cases hg : s.2 < s.1.length
      · exact ⟨s.1, by simp [hg], fun m hm => by simpa [hg] using hm⟩
      · exact ⟨s.1, by simp [hg], fun m hm => by simp [hg] at hm⟩
    · rw [if_neg hin, if_neg (by simp; omega)]
      exact ⟨s.1, rfl, fun m hm => by cases hm⟩
  | succ d ih =>
    intro i s K hi hs hK
    obtain ⟨K, rfl⟩ : ∃ m, K = m + 2 := ⟨K - 2, by omega⟩
    rcases implMean_step hw hl (by omega : i < h.length) hs K with ⟨h1, h2⟩ | ⟨s', h1, K', hK', h2⟩
    · have : meanO h = none := by
        unfold meanO
        rw [mto_none h2 (by omega)]
        split <;> rfl
      rw [h1, this]
      exact ⟨[], rfl, fun m hm => by cases hm⟩
    · rw [h2]
      exact ih (i + 1) s' K' (by omega) h1 (by omega)
theorem implMean_eq {k : Nat} {h : List Int} (hw : wfH h) (hl : h.length ≤ 1048576) (hk : 2200000 < k) : ∃ o, impl_Hoist_meaning.f k h = some (o, (meanO h).isSome) ∧ ∀ m, meanO h = some m → o = m := by
  unfold impl_Hoist_meaning.f
  exact implMean_all hw hl h.length 0 ([], 0) k (by omega) rfl (by omega)
theorem implValidH {k : Nat} {h : List Int} (hw : wfH h) (hl : h.length ≤ 1048576) (hk : 2200000 < k) : impl_ValidHoist.f k h = some (meanO h).isSome := by
  obtain ⟨o, h1, _⟩ := implMean_eq hw hl hk
  unfold impl_ValidHoist.f
  rw [h1]
  rfl
theorem group_end {h : List Int} {n : Nat} {s s' : List Int × Nat} (hs : mto h n = some s) (hs' : mstep (rd h (n : Int)) s = some s') : (rd h (n : Int) = -10 ↔ s'.2 = n + 1) := by
  obtain ⟨o1, o2, _⟩ := mto_ok n hs
  unfold mstep at hs'
  split at hs'
  · rename_i hn
    split at hs'
    · cases hs'
    · cases hs'
      exact ⟨fun _ => by simp only; omega, fun _ => hn⟩
  · rename_i hn
    split at hs'
    · split at hs'
      · cases hs'
        exact ⟨fun h => absurd h hn, fun h => by simp only at h; omega⟩
      · cases hs'
    · split at hs'
      · cases hs'
        exact ⟨fun h => absurd h hn, fun h => by simp only at h; omega⟩
      · cases hs'
set_option maxHeartbeats 1000000 in
theorem specMean_all {h : List Int} (hw : wfH h) (hl : 1 ≤ h.length ∧ h.length ≤ 8) : ∀ d i s K, i + d = h.length → mto h i = some s → (i = h.length → s.2 < i) → 3 * d + 1 ≤ K → spec_l02Read.l0 K h (h.length : Int) s.1 (s.2 : Int) (i : Int) = some (match meanO h with | some m => (m, true) | none => ([], false)) := by
  intro d
  induction d with
  | zero =>
    intro i s K hi hs hlast hK
    obtain ⟨K, rfl⟩ : ∃ m, K = m + 1 := ⟨K - 1, by omega⟩
    obtain rfl : i = h.length := by omega
    have o := mto_ok _ hs
    simp only [spec_l02Read.l0]
    rw [if_neg (by omega)]
    unfold meanO
    rw [if_pos hl, hs]
    simp only
    rw [if_pos (by rw [o.1]; exact hlast rfl)]
  | succ d ih =>
    intro i s K hi hs hlast hK
    have hil : i < h.length := by omega
    obtain ⟨o1, o2, o3⟩ := mto_ok i hs
    have hb := wfH_at hw hil
    have hm : mto h (i + 1) = mstep (rd h (i : Int)) s := by rw [mto, hs]; rfl
    have hnone : mstep (rd h (i : Int)) s = none → meanO h = none := fun hh => by
      unfold meanO
      rw [mto_none (hm.trans hh) (by omega)]
      split <;> rfl
    have hfwd : ∀ s' K', mstep (rd h (i : Int)) s = some s' → (i + 1 = h.length → rd h (i : Int) ≠ -10) → 3 * d + 1 ≤ K' → spec_l02Read.l0 K' h (h.length : Int) s'.1 (s'.2 : Int) ((i + 1 : Nat) : Int) = some (match meanO h with | some m => (m, true) | none => ([], false)) := fun s' K' hs' hne hK' => by
      have o' := mto_ok (i + 1) (hm.trans hs')
      refine ih (i + 1) s' K' (by omega) (hm.trans hs') (fun he => ?_) hK'
      have g := group_end hs hs'
      have := hne he
      have := o'.2.1
      rcases Nat.lt_or_ge s'.2 (i + 1) with e | e
      · exact e
      · exact absurd (g.2 (by omega)) (hne he)
    obtain ⟨K, rfl⟩ : ∃ m, K = m + 3 := ⟨K - 3, by omega⟩
    rw [show K + 3 = (K + 2) + 1 from rfl]
    generalize hK2 : K + 2 = K2
    simp only [spec_l02Read.l0]
    rw [if_pos (by omega), if_pos (by omega), if_pos (by omega)]
    unfold mstep at hnone hfwd
    generalize rd h (i : Int) = n at *
    by_cases hn : n = -10
    · rw [if_pos hn] at hnone hfwd ⊢
      by_cases hg : s.2 = s.1.length
      · rw [if_pos (by omega), hnone (by rw [if_pos hg])]
      · rw [if_neg (by omega)]
        by_cases hlst : i + 1 = h.length
        · rw [if_pos (by rw [w64 (by omega) (by omega)]; omega)]
          have hmn : meanO h = none := by
            unfold meanO
            rw [if_pos hl]
            have e2 : mto h h.length = some (s.1 ++ [n], s.1.length + 1) := by
              rw [← hlst, hm]
              unfold mstep
              rw [if_pos hn, if_neg hg]
            rw [e2]
            simp only
            rw [if_neg (by simp)]
          rw [hmn]
        · rw [if_neg (by rw [w64 (by omega) (by omega)]; omega), if_pos (by omega), w64 (by omega) (by omega)]
          have := hfwd (s.1 ++ [n], s.1.length + 1) K2 (by rw [if_neg hg]) (fun h => absurd h hlst) (by omega)
          rw [show ((i + 1 : Nat) : Int) = (i : Int) + 1 by omega] at this
          rw [← this]
          simp only
          rw [show ((s.1.length + 1 : Nat) : Int) = (i : Int) + 1 by omega]
    · rw [if_neg hn] at hnone hfwd ⊢
      rw [show K2 = (K + 1) + 1 by omega]
      generalize hK1 : K + 1 = K1
      have hj1 : (if n ≥ 0 then (spec_l02Read.j1 (K1 + 1) h (h.length : Int) s.1 (s.2 : Int) (i : Int) n (decide (n < 40))) else (spec_l02Read.j1 (K1 + 1) h (h.length : Int) s.1 (s.2 : Int) (i : Int) n false)) = spec_l02Read.j1 (K1 + 1) h (h.length : Int) s.1 (s.2 : Int) (i : Int) n (decide (0 ≤ n ∧ n ≤ 39)) := by
        by_cases h0 : 0 ≤ n
        · rw [if_pos h0]
          congr 1
          rw [decide_eq_decide]
          omega
        · rw [if_neg h0, decide_eq_false (by omega)]
      rw [hj1]
      by_cases hk : 0 ≤ n ∧ n ≤ 39
      · rw [if_neg (by omega), if_pos hk] at hnone hfwd
        rw [decide_eq_true hk]
        simp only [spec_l02Read.j1]
        rw [if_pos trivial, if_pos (by omega), w64 (by omega) (by omega)]
        have := hfwd (s.1 ++ [n], s.2) K1 rfl (fun _ => hn) (by omega)
        rw [show ((i + 1 : Nat) : Int) = (i : Int) + 1 by omega] at this
        exact this
      · rw [decide_eq_false hk]
        simp only [spec_l02Read.j1]
        rw [if_neg (by simp), ← hK1]
        have hj2 : (if n < 0 then (spec_l02Read.j2 (K + 1) h (h.length : Int) s.1 (s.2 : Int) (i : Int) n (decide (n ≥ (-4)))) else (spec_l02Read.j2 (K + 1) h (h.length : Int) s.1 (s.2 : Int) (i : Int) n false)) = spec_l02Read.j2 (K + 1) h (h.length : Int) s.1 (s.2 : Int) (i : Int) n (decide (-4 ≤ n ∧ n ≤ -1)) := by
          by_cases h0 : n < 0
          · rw [if_pos h0]
            congr 1
            rw [decide_eq_decide]
            omega
          · rw [if_neg h0, decide_eq_false (by omega)]
        rw [hj2]
        by_cases hsub : -4 ≤ n ∧ n ≤ -1
        · rw [if_pos hsub] at hnone hfwd
          rw [decide_eq_true hsub]
          simp only [spec_l02Read.j2]
          rw [if_pos trivial, i8w (n := -n) (by omega) (by omega), w64 (n := -n) (by omega) (by omega), w64 (n := (s.2 : Int) + -n) (by omega) (by omega), w64 (n := (s.2 : Int) + -n - 1) (by omega) (by omega)]
          have hat : (s.2 : Int) + -n - 1 = ((s.2 + (-n).toNat - 1 : Nat) : Int) := by omega
          rw [hat]
          by_cases hlt : s.2 + (-n).toNat - 1 < s.1.length
          · rw [if_neg (by omega), if_pos (by omega), if_pos (by omega), if_pos (by omega), w64 (by omega) (by omega)]
            rw [if_pos hlt] at hfwd
            have := hfwd _ K rfl (fun _ => hn) (by omega)
            rw [show ((i + 1 : Nat) : Int) = (i : Int) + 1 by omega] at this
            exact this
          · rw [if_pos (by omega), hnone (by rw [if_neg hlt])]
        · rw [if_neg hsub, if_neg hk] at hnone
          rw [decide_eq_false hsub]
          simp only [spec_l02Read.j2]
          rw [if_neg (by simp), hnone rfl]
theorem specMean_eq {k : Nat} {h : List Int} (hw : wfH h) (hk : 100 < k) : spec_l02Read.f k h = some (match meanO h with | some m => (m, true) | none => ([], false)) := by
  unfold spec_l02Read.f
  rw [in_eq]
  simp only [Option.bind_some]
  by_cases hl : 1 ≤ h.length ∧ h.length ≤ 8
  · rw [if_pos (by simp; omega)]
    exact specMean_all hw hl h.length 0 ([], 0) k (by omega) rfl (by omega) (by omega)
  · rw [if_neg (by simp; omega)]
    unfold meanO
    rw [if_neg hl]
theorem specOkH {k : Nat} {h : List Int} (hw : wfH h) (hk : 100 < k) : spec_l02Ok.f k h = some (meanO h).isSome := by
  unfold spec_l02Ok.f
  rw [specMean_eq hw hk]
  cases meanO h <;> rfl
end Go.Proofs.Ytheenidapjkboaa.G.Pure
end

section
namespace Go.Proofs.Ytheenidapjkboaa.G.Pure
open Go.RowKit Go.Proofs.Ytheenidapjkboaa.G Go.Proofs.YtheenidapjkboaaW.PrintWords Go.Proofs.YtheenidapjkboaaW.PrintLast Go.Proofs.YtheenidapjkboaaW.PrintMore
set_option linter.unusedVariables false
set_option linter.unusedSimpArgs false
theorem rd_impl_Times {l : List Tm} {i : Nat} (h : i < l.length) : rd_T106 l (i : Int) = l[i] := by
  simp [rd_T106, List.getD_eq_getElem?_getD, List.getElem?_eq_getElem h]
def tup (t : Tm) : Int × Int × Int × Int := (t.f0, t.f1, t.f2, t.f3)
theorem due_eq (k : Nat) (line : List Sp) (pre : List Tm) (i : Nat) (read : Int) (hi : i < line.length) (hp : pre.length = i) (h20 : i < 20) (hok : TimesOK pre) (hx : shipIn line[i]) (hr : 0 ≤ read ∧ read ≤ 120) (hk : 8 < k) :
    spec_l06Due.f k line pre (i : Int) read = some (tup (dueL pre line[i] read)) := by
  obtain ⟨s0, s1, s2, s3, s4, s5⟩ := hx
  unfold spec_l06Due.f
  rw [if_pos (by omega), if_pos (by omega), rd_impl_Ship hi]
  rw [w64 (n := (line[i]).f2) (by omega) (by omega), w64 (n := (line[i]).f0) (by omega) (by omega)]
  by_cases h0 : (i : Int) = 0
  · rw [if_pos h0]
    simp [dueL, tup, hp, show i = 0 by omega]
  · rw [if_neg h0, w64 (by omega) (by omega)]
    have hsc := fun n (hn : (i - (line[i]).f0.toNat) + n ≤ pre.length) => scan_spec pre hok (i - (line[i]).f0.toNat) n hn
    generalize line[i] = x at *
    obtain ⟨r, hr', h⟩ := loop_inv (fun k (s : Int × Int × Int) => spec_l06Due.l0 k pre (i : Int) read x.f2 s.1 s.2.1 s.2.2 (-1) (-1)) x.f0.toNat
      (fun j s => s.1 = (i : Int) - x.f0 + j ∧ (s.2.1, s.2.2) = scan pre (i - x.f0.toNat) ((i + j - x.f0.toNat) - (i - x.f0.toNat)))
      (fun r => r = tup (dueL pre x read))
      (fun k j s hj ⟨h1, h2⟩ => by
        obtain ⟨p, f, s⟩ := s
        simp only at h1 h2
        subst h1
        refine .inl ?_
        by_cases hneg : 0 ≤ (i : Int) - x.f0 + j
        · obtain ⟨q, hq⟩ : ∃ q : Nat, (i : Int) - x.f0 + j = (q : Int) := ⟨((i : Int) - x.f0 + j).toNat, by omega⟩
          have hql : q < pre.length := by omega
          have hb := hok.bound q _ (List.getElem?_eq_getElem hql)
          have hn : i - x.f0.toNat + (i + j - x.f0.toNat - (i - x.f0.toNat)) = q := by omega
          have hn2 : i + (j + 1) - x.f0.toNat - (i - x.f0.toNat) = (i + j - x.f0.toNat - (i - x.f0.toNat)) + 1 := by omega
          refine ⟨((q : Int) + 1, (scan pre (i - x.f0.toNat) (i + (j + 1) - x.f0.toNat - (i - x.f0.toNat))).1, (scan pre (i - x.f0.toNat) (i + (j + 1) - x.f0.toNat - (i - x.f0.toNat))).2), ⟨by simp only; omega, rfl⟩, ?_⟩
          rw [hn2]
          simp only [scan, ← h2, hn, List.getElem?_eq_getElem hql]
          rw [hq]
          simp only [spec_l06Due.l0]
          rw [if_pos (by omega), if_pos (by omega), if_pos (by omega), if_pos (by omega), rd_impl_Times hql, w64 (n := (q : Int) + 1) (by omega) (by omega), i8w (n := (q : Int)) (by omega) (by omega)]
          by_cases c1 : 0 ≤ pre[q].f3
          · rw [if_pos (by omega)]
            by_cases c2 : f < 0
            · rw [if_pos c2, if_pos ⟨c1, .inl c2⟩]
            · rw [if_neg c2]
              by_cases c3 : pre[q].f3 < s
              · rw [if_pos c3, if_pos ⟨c1, .inr c3⟩]
              · rw [if_neg c3, if_neg (fun h => h.2.elim c2 c3)]
          · rw [if_neg (by omega), if_neg (fun h => c1 h.1)]
        · have hn : i + j - x.f0.toNat - (i - x.f0.toNat) = 0 := by omega
          have hn2 : i + (j + 1) - x.f0.toNat - (i - x.f0.toNat) = 0 := by omega
          refine ⟨((i : Int) - x.f0 + j + 1, f, s), ⟨by simp only; omega, ?_⟩, ?_⟩
          · rw [hn2]; rw [hn] at h2; exact h2
          · simp only [spec_l06Due.l0]
            rw [if_pos (by omega), if_neg (by omega), w64 (by omega) (by omega)])
      (fun k s ⟨h1, h2⟩ => by
        obtain ⟨p, f, s⟩ := s
        simp only at h1 h2
        have hp' : p = (i : Int) := by omega
        subst hp'
        have hn : i + x.f0.toNat - x.f0.toNat - (i - x.f0.toNat) = pre.length - (pre.length - x.f0.toNat) := by omega
        refine ⟨_, rfl, ?_⟩
        have hs := hsc (pre.length - (pre.length - x.f0.toNat)) (by omega)
        rw [hn] at h2
        rw [← h2] at hs
        simp only [spec_l06Due.l0]
        rw [if_neg (by omega)]
        unfold dueL
        rw [if_neg (show ¬ pre.length = 0 by omega), show pre.length - x.f0.toNat = i - x.f0.toNat by omega]
        rw [show pre.length - x.f0.toNat = i - x.f0.toNat by omega] at h2
        rw [← h2]
        simp only
        by_cases c : 0 ≤ f
        · rw [if_pos (by omega), if_pos c]
          rcases hs with hs | hs
          · simp only [Prod.mk.injEq] at hs
            omega
          · simp only at hs
            rw [w64 (n := s + read) (by omega) (by omega), w64 (by omega) (by omega)]
            rfl
        · rw [if_neg (by omega), if_neg c]
          rcases hs with hs | hs
          · simp only [Prod.mk.injEq] at hs
            rw [hs.1, hs.2]
            rfl
          · simp only at hs
            omega) k ((i : Int) - x.f0, -1, -1) ⟨by simp, by
        rw [show i + 0 - x.f0.toNat - (i - x.f0.toNat) = 0 by omega]
        rfl⟩ (by omega)
    subst hr'
    exact h
theorem specTimes_eq (k : Nat) (line : List Sp) (ship more : Int) (hl : line.length ≤ 20) (hx : ∀ x ∈ line, shipIn x) (hr : ∀ (i : Nat) (x : Sp), line[i]? = some x → 0 ≤ x.f1 + (if (i : Int) = ship then more else 0) ∧ x.f1 + (if (i : Int) = ship then more else 0) ≤ 120) (hm : 0 ≤ more ∧ more ≤ 60) (hk : 40 < k) :
    spec_l06Times.f k line ship more = some (timesL ship more line) := by
  unfold spec_l06Times.f
  have go : ∀ (rest : List Sp) (k : Nat) (acc : List Tm), line.drop acc.length = rest → TimesOK acc → acc.length ≤ line.length → rest.length + 10 < k → spec_l06Times.l0 k line ship more acc (acc.length : Int) = some (timesGo ship more rest acc) := by
    intro rest
    induction rest with
    | nil =>
      intro k acc hd hok hle hk
      obtain ⟨k, rfl⟩ : ∃ m, k = m + 1 := ⟨k - 1, by omega⟩
      have := List.drop_eq_nil_iff.1 hd
      simp only [spec_l06Times.l0]
      rw [if_neg (by omega)]
      rfl
    | cons x xs ih =>
      intro k acc hd hok hle hk
      simp only [List.length_cons] at hk
      obtain ⟨k, rfl⟩ : ∃ m, k = m + 1 := ⟨k - 1, by omega⟩
      have hlt : acc.length < line.length := by
        have := congrArg List.length hd
        simp at this
        omega
      have hx0 : line[acc.length] = x := by
        have h1 := List.drop_eq_getElem_cons hlt
        rw [hd] at h1
        exact (List.cons.inj h1).1.symm
      have hxs : line.drop (acc.length + 1) = xs := by
        have h1 := List.drop_eq_getElem_cons hlt
        rw [hd] at h1
        exact (List.cons.inj h1).2.symm
      have hmem : x ∈ line := hx0 ▸ List.getElem_mem hlt
      obtain ⟨s0, s1, s2, s3, s4, s5⟩ := hx x hmem
      have hr' := hr acc.length x (by rw [List.getElem?_eq_getElem hlt, hx0])
      simp only [spec_l06Times.l0]
      rw [if_pos (by omega), if_pos (by omega), rd_impl_Ship hlt, hx0]
      rw [w64 (n := x.f1) (by omega) (by omega), w64 (n := (acc.length : Int) + 1) (by omega) (by omega)]
      have step : ∀ read, read = x.f1 + (if (acc.length : Int) = ship then more else 0) → 
          ((spec_l06Due.f k line acc (acc.length : Int) read).bind fun bt => (if acc.length < 4398046511104 then (spec_l06Times.l0 k line ship more (acc ++ [(⟨bt.1, bt.2.1, bt.2.2.1, bt.2.2.2⟩ : Tm)]) ((acc.length : Int) + 1)) else none)) = some (timesGo ship more (x :: xs) acc) := by
        intro read hread
        rw [due_eq k line acc acc.length read hlt rfl (by omega) hok (by rw [hx0]; exact hx x hmem) (by rw [hread]; exact hr') (by omega)]
        simp only [Option.bind_some]
        rw [if_pos (by omega), hx0]
        have h2 := ih k (acc ++ [dueL acc x read]) (by simpa using hxs) (due_ok hok ⟨s4, s5⟩ (by rw [hread]; exact hr')) (by simp; omega) (by omega)
        rw [show ((acc ++ [dueL acc x read]).length : Int) = (acc.length : Int) + 1 by simp] at h2
        simp only [tup, timesGo]
        rw [← hread]
        exact h2
      by_cases c : (acc.length : Int) = ship
      · rw [if_pos c]
        rw [if_pos c] at hr'
        rw [w64 (n := x.f1 + more) (by omega) (by omega)]
        exact step _ (by rw [if_pos c])
      · rw [if_neg c]
        exact step _ (by rw [if_neg c, Int.add_zero])
  exact go line k [] rfl TimesOK.nil (by simp) (by omega)
end Go.Proofs.Ytheenidapjkboaa.G.Pure
end

section
namespace Go.Proofs.Ytheenidapjkboaa.G.Pure
open Go.RowKit Go.Proofs.Ytheenidapjkboaa.G Go.Proofs.YtheenidapjkboaaW.PrintWords Go.Proofs.YtheenidapjkboaaW.PrintLast Go.Proofs.YtheenidapjkboaaW.PrintMore
set_option linter.unusedVariables false
set_option linter.unusedSimpArgs false
theorem implInner (k : Nat) (acc : List Tm) (line : List Sp) (x : Sp) (i a : Nat) (len x12 : Int) (hi : acc.length = i) (h20 : i < 20) (h1i : 0 < i) (hok : TimesOK acc) (hx : shipIn x) (ha : a ≤ i) :
  ∀ d n,a + n + d = i → impl_times.l1 (k + d + 1) acc (i : Int) ((a + n : Nat) : Int) line len x12 x.f0 x.f1 x.f2 (scan acc a n).1 (scan acc a n).2 (-1) (-1) =
   impl_times.l1 (k + 1) acc (i : Int) (i : Int) line len x12 x.f0 x.f1 x.f2 (scan acc a (i - a)).1 (scan acc a (i - a)).2 (-1) (-1) := by
 intro d
 induction d with
 | zero =>
  intro n hn
  rw [show i - a = n by omega,show a + n = i by omega]
 | succ d ih =>
  intro n hn
  have hql : a + n < acc.length := by omega
  have hb := hok.bound (a + n) _ (List.getElem?_eq_getElem hql)
  have hsc := scan_spec acc hok a n (by omega)
  rw [← ih (n + 1) (by omega)]
  rw [show k + (d + 1) + 1 = (k + d + 1) + 1 by omega]
  conv => lhs;unfold impl_times.l1
  rw [if_pos (by omega),if_pos (by omega),if_pos (by omega),rd_impl_Times hql,w64 (n := ((a + n : Nat) : Int) + 1) (by omega) (by omega),i8w (n := ((a + n : Nat) : Int)) (by omega) (by omega)]
  rw [show ((a + (n + 1) : Nat) : Int) = ((a + n : Nat) : Int) + 1 by omega]
  have hs1 : scan acc a (n + 1) = if 0 ≤ acc[a + n].f3 ∧ ((scan acc a n).1 < 0 ∨ acc[a + n].f3 < (scan acc a n).2) then (((a + n : Nat) : Int),acc[a + n].f3) else scan acc a n := by
   rcases hs : scan acc a n with ⟨f,s⟩
   simp only [scan,hs,List.getElem?_eq_getElem hql]
  rw [hs1]
  have hneg : (scan acc a n).1 < 0 ↔ (scan acc a n).2 < 0 := by
   rcases hsc with h | h
   ·rw [h]
   ·omega
  by_cases c1 : 0 ≤ acc[a + n].f3
  ·rw [if_pos (by omega)]
   by_cases c2 : (scan acc a n).2 < 0
   ·rw [if_pos c2,if_pos ⟨c1,.inl (hneg.2 c2)⟩]
   ·rw [if_neg c2]
    by_cases c3 : acc[a + n].f3 < (scan acc a n).2
    ·rw [if_pos c3,if_pos ⟨c1,.inr c3⟩]
    ·rw [if_neg c3,if_neg (fun h => h.2.elim (fun h => c2 (hneg.1 h)) c3)]
  ·rw [if_neg (by omega),if_neg (fun h => c1 h.1)]
theorem implRound (k : Nat) (acc : List Tm) (line : List Sp) (x : Sp) (hlt : acc.length < line.length) (h20 : line.length ≤ 20) (hx0 : line[acc.length] = x) (hok : TimesOK acc) (hx : shipIn x) :
  impl_times.l0 (k + (acc.length - (acc.length - x.f0.toNat)) + 3) acc line (line.length : Int) (acc.length : Int) = impl_times.l0 k (acc ++ [dueL acc x x.f1]) line (line.length : Int) ((acc.length : Int) + 1) := by
 obtain ⟨s0,s1,s2,s3,s4,s5⟩ := hx
 have hxx : shipIn x := ⟨s0,s1,s2,s3,s4,s5⟩
 rcases Nat.eq_zero_or_pos acc.length with h0 | h0
 ·rw [show k + (acc.length - (acc.length - x.f0.toNat)) + 3 = k + 3 by omega]
  conv => lhs;unfold impl_times.l0
  rw [if_pos (by omega),if_pos (by omega),if_pos (by omega),if_pos (by omega),rd_impl_Ship hlt,hx0]
  conv => lhs;unfold impl_times.j1
  rw [w64 (n := x.f0) (by omega) (by omega),w64 (by omega) (by omega)]
  rw [show mx ((acc.length : Int) - x.f0) 0 = (acc.length : Int) by unfold mx;split <;> omega]
  conv => lhs;unfold impl_times.l1
  rw [if_neg (by omega),if_pos (by omega),if_pos (by omega),if_pos (by omega),w64 (n := x.f2) (by omega) (by omega),w64 (n := x.f2) (by omega) (by omega),w64 (n := (acc.length : Int) + 1) (by omega) (by omega)]
  simp [dueL,h0]
 ·obtain ⟨a,ha⟩ : ∃ a,a = acc.length - x.f0.toNat := ⟨_,rfl⟩
  rw [← ha]
  conv => lhs;unfold impl_times.l0
  rw [if_pos (by omega),if_pos (by omega),if_pos (by omega),if_neg (by omega),rd_impl_Ship hlt,hx0]
  conv => lhs;unfold impl_times.j1
  rw [w64 (n := x.f0) (by omega) (by omega),w64 (n := (acc.length : Int) - x.f0) (by omega) (by omega)]
  rw [show mx ((acc.length : Int) - x.f0) 0 = ((a + 0 : Nat) : Int) by unfold mx;split <;> omega]
  have h1 := implInner k acc line x acc.length a (line.length : Int) (acc.length : Int) rfl (by omega) h0 hok hxx (by omega) (acc.length - a) 0 (by omega)
  simp only [scan] at h1
  rw [h1]
  have hsc := scan_spec acc hok a (acc.length - a) (by omega)
  have hd : dueL acc x x.f1 = if 0 ≤ (scan acc a (acc.length - a)).1 then ⟨(scan acc a (acc.length - a)).1,(scan acc a (acc.length - a)).2,(scan acc a (acc.length - a)).2 + x.f1,(scan acc a (acc.length - a)).2 + x.f1 + x.f2⟩ else ⟨-1,-1,-1,-1⟩ := by
   unfold dueL
   rw [if_neg (show ¬ acc.length = 0 by omega),← ha]
  rw [hd]
  rcases hsc with h | h
  ·rw [h]
   conv => lhs;unfold impl_times.l1
   simp only
   rw [if_neg (by omega),if_neg (by omega),if_pos (by omega),if_neg (by omega),w64 (by omega) (by omega)]
  ·conv => lhs;unfold impl_times.l1
   rw [if_neg (by omega),if_pos (by omega),if_neg (by omega),if_pos (by omega),if_pos h.1]
   rw [w64 (n := x.f1) (by omega) (by omega),w64 (n := x.f2) (by omega) (by omega),w64 (n := (scan acc a (acc.length - a)).2 + x.f1) (by omega) (by omega),w64 (n := (scan acc a (acc.length - a)).2 + x.f1 + x.f2) (by omega) (by omega),w64 (n := (acc.length : Int) + 1) (by omega) (by omega)]
theorem timesGo_plain (xs : List Sp) (acc : List Tm) : ∀ x,timesGo (-1) 0 (x :: xs) acc = timesGo (-1) 0 xs (acc ++ [dueL acc x x.f1]) := by
 intro x
 simp only [timesGo]
 rw [if_neg (by omega),Int.add_zero]
theorem implTimes_eq (k : Nat) (line : List Sp) (hl : line.length ≤ 20) (hx : ∀ x ∈ line,shipIn x) (hk : 200 < k) : impl_times.f k line = some (timesL (-1) 0 line) := by
 have go : ∀ (rest : List Sp) (k : Nat) (acc : List Tm),line.drop acc.length = rest → TimesOK acc → acc.length ≤ line.length → 9 * rest.length < k → impl_times.l0 k acc line (line.length : Int) (acc.length : Int) = some (timesGo (-1) 0 rest acc) := by
  intro rest
  induction rest with
  | nil =>
   intro k acc hd hok hle hk
   obtain ⟨k,rfl⟩ : ∃ m,k = m + 1 := ⟨k - 1,by omega⟩
   have := List.drop_eq_nil_iff.1 hd
   unfold impl_times.l0
   rw [if_neg (by omega)]
   rfl
  | cons x xs ih =>
   intro k acc hd hok hle hk
   simp only [List.length_cons] at hk
   have hlt : acc.length < line.length := by
    have := congrArg List.length hd
    simp at this
    omega
   have hx0 : line[acc.length] = x := by
    have h1 := List.drop_eq_getElem_cons hlt
    rw [hd] at h1
    exact (List.cons.inj h1).1.symm
   have hxs : line.drop (acc.length + 1) = xs := by
    have h1 := List.drop_eq_getElem_cons hlt
    rw [hd] at h1
    exact (List.cons.inj h1).2.symm
   have hmem : x ∈ line := hx0 ▸ List.getElem_mem hlt
   have hxx := hx x hmem
   obtain ⟨s0,s1,s2,s3,s4,s5⟩ := hxx
   obtain ⟨m,rfl,hm⟩ : ∃ m,k = m + (acc.length - (acc.length - x.f0.toNat)) + 3 ∧ 9 * xs.length < m := ⟨k - (acc.length - (acc.length - x.f0.toNat)) - 3,by omega,by omega⟩
   rw [implRound m acc line x hlt hl hx0 hok (hx x hmem),timesGo_plain]
   have h2 := ih m (acc ++ [dueL acc x x.f1]) (by simpa using hxs) (due_ok hok ⟨s4,s5⟩ ⟨s2,s3⟩) (by simp;omega) hm
   rw [show ((acc ++ [dueL acc x x.f1]).length : Int) = (acc.length : Int) + 1 by simp] at h2
   exact h2
 unfold impl_times.f
 exact go line k [] rfl TimesOK.nil (by simp) (by omega)
end Go.Proofs.Ytheenidapjkboaa.G.Pure
end

section
namespace Go.Proofs.Ytheenidapjkboaa.G.Pure
open Go.RowKit Go.Proofs.Ytheenidapjkboaa.G Go.Proofs.YtheenidapjkboaaW.PrintWords Go.Proofs.YtheenidapjkboaaW.PrintLast Go.Proofs.YtheenidapjkboaaW.PrintMore
set_option linter.unusedVariables false
set_option linter.unusedSimpArgs false
theorem ValidL.specTimes {line : List Sp} (v : ValidL line) {k : Nat} (hk : 300 < k) : spec_l06Times.f k line (-1) 0 = some (timesL (-1) 0 line) :=
 specTimes_eq k line (-1) 0 v.most v.in_ (fun i x hx => by
  have := v.ships x (List.mem_of_getElem? hx)
  rw [if_neg (by omega)]
  omega) ⟨by omega,by omega⟩ (by omega)
theorem ValidL.implTimes {line : List Sp} (v : ValidL line) {k : Nat} (hk : 300 < k) : impl_times.f k line = some (timesL (-1) 0 line) :=
 implTimes_eq k line v.most v.in_ (by omega)
theorem ValidL.timesOK {line : List Sp} (v : ValidL line) : TimesOK (timesL (-1) 0 line) :=
 timesGo_ok (-1) 0 line [] TimesOK.nil (fun x hx => by have := v.ships x hx;omega) (fun i x hx => by
  have := v.ships x (List.mem_of_getElem? hx)
  rw [if_neg (by simp only [List.length_nil];omega)]
  omega)
end Go.Proofs.Ytheenidapjkboaa.G.Pure
end

section
namespace Go.Proofs.Ytheenidapjkboaa.G.Pure
open Go.RowKit Go.Proofs.Ytheenidapjkboaa.G Go.Proofs.YtheenidapjkboaaW.PrintWords Go.Proofs.YtheenidapjkboaaW.PrintLast Go.Proofs.YtheenidapjkboaaW.PrintMore
set_option linter.unusedVariables false
set_option linter.unusedSimpArgs false
theorem rdH_len {read : Hs} (hi : ∀ x ∈ read,x.length ≤ 1048576) (i : Int) : (rd_L2 read i).length ≤ 1048576 := by
 unfold rd_L2
 rw [List.getD_eq_getElem?_getD]
 cases e : read[i.toNat]? with
 | none => simp
 | some x => exact hi x (List.mem_of_getElem? e)
end Go.Proofs.Ytheenidapjkboaa.G.Pure
end
