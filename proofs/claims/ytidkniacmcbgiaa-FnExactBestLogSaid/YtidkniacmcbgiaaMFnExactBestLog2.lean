/- The law's functions, their contracts, and the plain lemmas: texts of this claim, laid together. -/
import Derived.Deep.Slices
import Derived.Deep.Fields
import Derived.ChangeSame
import Derived.OpenShut
import Derived.Test.YtidkniacmcbgiaaMFnExactBestLog0
import Derived.Test.YtidkniacmcbgiaaMFnExactBestLog1
section
namespace Go.Proofs.Ytidkniacmcbgiaa.G
open Go.RowKit Go.Proofs.YtidkniacmcbgiaaW.PrintWords Go.Proofs.YtidkniacmcbgiaaW.PrintLast Go.Proofs.YtidkniacmcbgiaaW.PrintMore
attribute [local go_sem] max2_int min2_int max_two min_two max_three min_three max_four min_four
set_option linter.unusedVariables false
set_option linter.unusedSimpArgs false
mutual
def spec_l07Up.l0 : Nat → List (S73) → Int → List Int → Int → Option (List Int × Bool)
 | 0,_,_,_,_ => none
 | k + 1,x0,x1,x6,x7 => if x7 < x1 then (spec_l07Up.l1 k x0 x1 x6 x7 (-1) 0) else (some (x6,true))
def spec_l07Up.l1 : Nat → List (S73) → Int → List Int → Int → Int → Int → Option (List Int × Bool)
 | 0,_,_,_,_,_,_ => none
 | k + 1,x0,x1,x6,x7,x8,x9 => if x9 < (x6.length : Int) then (if 0 ≤ x9 then (if 0 ≤ (rd x6 x9) then (if (rd x6 x9) < (x0.length : Int) then (if 0 ≤ x7 then (if x7 < (x0.length : Int) then (if ((rd_T73 x0 (rd x6 x9)).f1) = ((rd_T73 x0 x7).f1) then (spec_l07Up.l1 k x0 x1 x6 x7 x9 (wrap64 (x9 + 1))) else (spec_l07Up.l1 k x0 x1 x6 x7 x8 (wrap64 (x9 + 1)))) else (none)) else (none)) else (none)) else (none)) else (none)) else (if 0 ≤ x7 then (if x7 < (x0.length : Int) then (if (((rd_T73 x0 x7).f2) != (decide (x8 ≥ 0))) = true then (some ((([] : List Int)),false)) else (if x8 < 0 then (if x6.length < 17592186044416 then (spec_l07Up.l0 k x0 x1 (x6 ++ [x7]) (wrap64 (x7 + 1))) else (none)) else ((some (([] : List Int) : List Int)).bind fun y114 => (if 0 ≤ x8 then (if x8 ≤ (x6.length : Int) then ((some (x6.take (x8 : Int).toNat : List Int)).bind fun y117 => (if y114.length + y117.length < 17592186044416 then ((some (y114 ++ y117 : List Int)).bind fun y121 => (if 0 ≤ (wrap64 (x8 + 1)) then (if (wrap64 (x8 + 1)) ≤ (x6.length : Int) then ((some (x6.drop ((wrap64 (x8 + 1)) : Int).toNat : List Int)).bind fun y124 => (if y121.length + y124.length < 17592186044416 then (spec_l07Up.l0 k x0 x1 (y121 ++ y124) (wrap64 (x7 + 1))) else (none))) else (none)) else (none))) else (none))) else (none)) else (none))))) else (none)) else (none))
end
def spec_l07Up.f (k : Nat) (l0 : List (S73)) (a1 : Int) : Option (List Int × Bool) := spec_l07Up.l0 k l0 a1 (([] : List Int)) 0
def spec_l07Up.T9 : Bool × List (List Nat × List Nat) := (true,[([],[]),([],[]),([],[]),([1,2],[1,2]),([3],[3]),([0,4],[0,4]),([5],[5]),([6],[6]),([],[]),([],[]),([8,9],[8,9]),([10],[10]),([11],[11]),([7,12],[7,12])])
def spec_l07Up.B9 : List Nat := [0,0,0,6,14,31,63,127,0,0,768,1792,3840,8191]
theorem spec_l07Up.tab9 : rtab .any (opsOf Try.f76 9) = spec_l07Up.T9 := by kernel_rfl
theorem spec_l07Up.bits9 : waitsOk spec_l07Up.T9.2 spec_l07Up.B9 = true := by kernel_rfl
def spec_l07Up.T15 : Bool × List (List Nat × List Nat) := (true,[([],[]),([],[]),([],[]),([1,2],[1,2]),([0,3],[0,3]),([],[]),([],[]),([6],[6]),([5,7],[5,7]),([4,8,4],[4,8]),([9,9,0,1,2,3,4,5,6,7,8,9],[1,5,9])])
def spec_l07Up.B15 : List Nat := [0,0,0,6,15,0,0,64,224,511,1023]
theorem spec_l07Up.tab15 : rtab .any (opsOf Try.f76 15) = spec_l07Up.T15 := by kernel_rfl
theorem spec_l07Up.bits15 : waitsOk spec_l07Up.T15.2 spec_l07Up.B15 = true := by kernel_rfl
set_option maxHeartbeats 8000000 in
set_option maxRecDepth 100000 in
theorem spec_l07Up.calls (k : Nat) (A0 : Option Addr) (c0 : Nat) (l0 : List (S73)) (a1 : Int) (r1 : List Int) (r2 : Bool) (w : World) (hr0 : Kd.C k73 w A0 l0.length l0) (hc0 : l0.length ≤ c0) (h : spec_l07Up.f k l0 a1 = some (r1,r2)) :
  Calls Try.prog 76 #[.slice A0 l0.length c0,.int .i64 a1] w fun e w' => ∃ v0_ : Value,e = .returned (.tuple #[v0_,.bool r2]) ∧ Kd.R (Kd.int .i64) 3 w' w.heap.size (fun _ => True) v0_ r1 ∧ Below w.heap.size w w' := by
 have HR0 := Aside0.mk hr0;have HC0 := Aside0.mk hc0;clear hr0 hc0;have HB := Aside0.mk (Below.refl w.heap.size w);have H : (spec_l07Up.l0 k l0 a1 (([] : List Int)) 0) = some (r1,r2) := h;clear h;obtain ⟨y101,hy101⟩ : ∃ y_ : List Int,y_ = (([] : List Int)) := ⟨_,rfl⟩
 replace H : (spec_l07Up.l0 k l0 a1 y101 0) = some (r1,r2) := by first | (rw [hy101];with_reducible exact H) | (have H2_ := (Option.bind_some _ _).symm.trans H;rw [hy101];with_reducible exact H2_) | (have H2_ := (Option.bind_some _ _).symm.trans H;with_reducible exact H2_) | with_reducible exact H | (rw [hy101];exact H) | exact H
 have Ny101 := Aside0.mk hy101;clear hy101;have H' := Aside0.mk H;clear H
 go_enter Try.func76,Try.ntmps76
 go_wp2_with (first | ((with_reducible refine gate_dst (N := 10) rfl ?_);refine Kd.R_lit (Kd.int .i64) _ 3 ?hg (N := 10) ?hd (xs := ([] : List Int)) (inner := []) (ok := fun _ => True) (okp := fun _ => True) ?hr ?hp (fun _ hk => hk) trivial (Below.refl _ _) (Nat.le_refl _) (by simp) ?_;(case hd => rfl);(case hg => rfl);(case hr => first | (go_simp;done) | (go_simp;rfl));(case hp => exact (Reps.none _ _));intro v102 w3 ho4 hb hg_ hnew_;clear hg_ hnew_;(first | rw [← Ny101.out] at ho4 | (simp only [Int.reduceToNat] at ho4;rw [← Ny101.out] at ho4));have n0_ := Aside0.mk (Kd.R_lower ho4 (below_size (by repeat (first | (with_reducible first | exact HB.out | apply below_alloc | apply pw_below_drewN | apply below_drew1) | exact HB.out))));have n1_ := Aside0.mk (below_step (by repeat (first | (with_reducible first | exact HB.out | apply below_alloc | apply pw_below_drewN | apply below_drew1) | exact HB.out)) hb);clear HB;have HO103 := n0_;have HB := n1_;clear n0_ n1_;clear hb ho4))
 go_loopg [6,7] k (fun kq v6 v7 w' => ∃ (x6_1 : List Int) (x7_1 : Int),v7 = .int .i64 x7_1 ∧ Aside0 (spec_l07Up.l0 kq l0 a1 x6_1 x7_1 = some (r1,r2)) ∧ Aside0 (kq ≤ k) ∧ Aside0 (Kd.R (Kd.int .i64) 3 w' w.heap.size (fun _ => True) v6 x6_1) ∧ Aside0 (Below w.heap.size w w'))
 case atStart => exact ⟨(y101),(0),(by first | rfl | (simp only [IntKind.wrap_i64,wrap64];done) | (simp;done) | (simp [*];done)),H',⟨Nat.le_refl _⟩,⟨by (with_reducible repeat (first | apply Kd.R_alloc | apply Kd.R_drewN | apply Kd.R_drew));exact HO103.out⟩,⟨by repeat (first | (with_reducible first | exact HB.out | apply below_alloc | apply pw_below_drewN | apply below_drew1) | exact HB.out)⟩⟩
 case round =>
  clear H';(try clear p2);obtain ⟨x6_1,x7_1,rfl,HA,HK1,HO_6,HB⟩ := hrel
  cases gk with
  | zero => exact absurd HA.out (by simp [spec_l07Up.l0])
  | succ k1 =>
   have H := HA.out;clear HA;simp only [spec_l07Up.l0] at H
   by_cases c5 : x7_1 < a1
   ·rw [if_pos c5] at H;have c5b0 : decide (x7_1 < a1) = true := decide_eq_true c5;clear c5;have H' := Aside0.mk H;clear H
    go_wp2
    go_loopg [8,9] k1 (fun kq v8 v9 w' => ∃ (x8_2 : Int) (x9_2 : Int),v8 = .int .i64 x8_2 ∧ v9 = .int .i64 x9_2 ∧ Aside0 (spec_l07Up.l1 kq l0 a1 x6_1 x7_1 x8_2 x9_2 = some (r1,r2)) ∧ Aside0 (kq ≤ k1) ∧ Aside0 (Kd.R (Kd.int .i64) 3 w' w.heap.size (fun _ => True) u6 x6_1) ∧ Aside0 (Below w.heap.size w w'))
    case atStart => exact ⟨((-1)),(0),(by first | rfl | (simp only [IntKind.wrap_i64,wrap64];done) | (simp;done) | (simp [*];done)),(by first | rfl | (simp only [IntKind.wrap_i64,wrap64];done) | (simp;done) | (simp [*];done)),H',⟨Nat.le_refl _⟩,⟨by (with_reducible repeat (first | apply Kd.R_alloc | apply Kd.R_drewN | apply Kd.R_drew));exact HO_6.out⟩,⟨by repeat (first | (with_reducible first | exact HB.out | apply below_alloc | apply pw_below_drewN | apply below_drew1) | exact HB.out)⟩⟩
    case round =>
     clear H';(try clear p2);(try clear c5);(try clear c5b0);(try clear p2);obtain ⟨x8_2,x9_2,rfl,rfl,HA,HK2,HO_6,HB⟩ := hrel
     cases gk with
     | zero => exact absurd HA.out (by simp [spec_l07Up.l1])
     | succ k2 =>
      have H := HA.out;clear HA;simp only [spec_l07Up.l1] at H
      by_cases c6 : x9_2 < (x6_1.length : Int)
      ·rw [if_pos c6] at H;have c6b0 : decide (x9_2 < (x6_1.length : Int)) = true := decide_eq_true c6;clear c6
       by_cases c7 : 0 ≤ x9_2
       ·rw [if_pos c7] at H;have c7b0 : decide (0 ≤ x9_2) = true := decide_eq_true c7;clear c7
        by_cases c8 : 0 ≤ (rd x6_1 x9_2)
        ·rw [if_pos c8] at H;have c8b0 : decide (0 ≤ (rd x6_1 x9_2)) = true := decide_eq_true c8;clear c8
         by_cases c9 : (rd x6_1 x9_2) < (l0.length : Int)
         ·rw [if_pos c9] at H;have c9b0 : decide ((rd x6_1 x9_2) < (l0.length : Int)) = true := decide_eq_true c9;clear c9
          by_cases c10 : 0 ≤ x7_1
          ·rw [if_pos c10] at H;have c10b0 : decide (0 ≤ x7_1) = true := decide_eq_true c10;clear c10
           by_cases c11 : x7_1 < (l0.length : Int)
           ·rw [if_pos c11] at H;have c11b0 : decide (x7_1 < (l0.length : Int)) = true := decide_eq_true c11;clear c11
            by_cases c12 : ((rd_T73 l0 (rd x6_1 x9_2)).f1) = ((rd_T73 l0 x7_1).f1)
            ·rw [if_pos c12] at H;have c12b0 : (((rd_T73 l0 (rd x6_1 x9_2)).f1) == ((rd_T73 l0 x7_1).f1)) = true := beq_iff_eq.mpr c12;have c12b1 : (((rd_T73 l0 (rd x6_1 x9_2)).f1) != ((rd_T73 l0 x7_1).f1)) = false := bne_eq_false_iff_eq.mpr c12;clear c12;have H' := Aside0.mk H;clear H;obtain ⟨Ao13,co13,eo13⟩ := Kd.R_slice HO_6.out;subst eo13;(try go_wp2);have n0_ := Aside0.mk (Kd.R_drew HO_6.out);have n1_ := Aside0.mk (below_drew1 HB.out);clear HO_6;clear HB;have HO_6 := n0_;have HB := n1_;clear n0_ n1_;have p104 : 0 ≤ (x9_2 : Int) := of_decide_eq_true (by first | (with_reducible assumption) | assumption);have q104 : x9_2 < (x6_1.length : Int) := of_decide_eq_true (by first | (with_reducible assumption) | assumption);obtain ⟨ad104,e104,hx104_0⟩ := Kd.at_int (Kd.R_reads' HO_6.out).2.2 x9_2 p104 q104;cases e104;replace p104 := eq_true p104;replace q104 := eq_true q104;have p105 : 0 ≤ ((rd x6_1 x9_2) : Int) := of_decide_eq_true (by first | (with_reducible assumption) | assumption);have q105 : (rd x6_1 x9_2) < (l0.length : Int) := of_decide_eq_true (by first | (with_reducible assumption) | assumption);obtain ⟨ad105,e105,hx105_0,hx105_1,hx105_2⟩ := at_T73 HR0.out (rd x6_1 x9_2) p105 q105;have hw105_2 := hx105_2;have hw105_1 := hx105_1;have hw105_0 := hx105_0;cases e105;replace hx105_0 := (HB.out.cell (World.block_lt_of_cell? w _ hx105_0)).trans hx105_0;replace hx105_1 := (HB.out.cell (World.block_lt_of_cell? w _ hx105_1)).trans hx105_1;replace hx105_2 := (HB.out.cell (World.block_lt_of_cell? w _ hx105_2)).trans hx105_2;replace p105 := eq_true p105;replace q105 := eq_true q105;have p106 : 0 ≤ (x7_1 : Int) := of_decide_eq_true (by first | (with_reducible assumption) | assumption);have q106 : x7_1 < (l0.length : Int) := of_decide_eq_true (by first | (with_reducible assumption) | assumption);obtain ⟨ad106,e106,hx106_0,hx106_1,hx106_2⟩ := at_T73 HR0.out x7_1 p106 q106;have hw106_2 := hx106_2;have hw106_1 := hx106_1;have hw106_0 := hx106_0;obtain rfl : ad105 = ad106 := (by injection e106);replace hx106_0 := (HB.out.cell (World.block_lt_of_cell? w _ hx106_0)).trans hx106_0;replace hx106_1 := (HB.out.cell (World.block_lt_of_cell? w _ hx106_1)).trans hx106_1;replace hx106_2 := (HB.out.cell (World.block_lt_of_cell? w _ hx106_2)).trans hx106_2;replace p106 := eq_true p106;replace q106 := eq_true q106;refine start_ (n := 14) (S := fun w' => w'.cell? (ad104.add (x9_2).toNat) = some (.int .i64 (rd x6_1 x9_2)) ∧ w'.cell? (ad105.add (((rd x6_1 x9_2)).toNat * 3)) = some (.int .i64 ((rd_T73 l0 (rd x6_1 x9_2)).f0)) ∧ w'.cell? ⟨(ad105.add (((rd x6_1 x9_2)).toNat * 3)).block,(ad105.add (((rd x6_1 x9_2)).toNat * 3)).off + 1,none⟩ = some (.int .i64 ((rd_T73 l0 (rd x6_1 x9_2)).f1)) ∧ w'.cell? ⟨(ad105.add (((rd x6_1 x9_2)).toNat * 3)).block,(ad105.add (((rd x6_1 x9_2)).toNat * 3)).off + 2,none⟩ = some (.bool ((rd_T73 l0 (rd x6_1 x9_2)).f2)) ∧ w'.cell? (ad105.add ((x7_1).toNat * 3)) = some (.int .i64 ((rd_T73 l0 x7_1).f0)) ∧ w'.cell? ⟨(ad105.add ((x7_1).toNat * 3)).block,(ad105.add ((x7_1).toNat * 3)).off + 1,none⟩ = some (.int .i64 ((rd_T73 l0 x7_1).f1)) ∧ w'.cell? ⟨(ad105.add ((x7_1).toNat * 3)).block,(ad105.add ((x7_1).toNat * 3)).off + 2,none⟩ = some (.bool ((rd_T73 l0 x7_1).f2))) (ds := []) #[false,false,false,false,false,false,false,false,false,false,false,false,false,false] (by kernel_rfl) rfl rfl ⟨hx104_0,((HB.out.cell (World.block_lt_of_cell? w _ hw105_0)).trans hw105_0),((HB.out.cell (World.block_lt_of_cell? w _ hw105_1)).trans hw105_1),((HB.out.cell (World.block_lt_of_cell? w _ hw105_2)).trans hw105_2),((HB.out.cell (World.block_lt_of_cell? w _ hw106_0)).trans hw106_0),((HB.out.cell (World.block_lt_of_cell? w _ hw106_1)).trans hw106_1),((HB.out.cell (World.block_lt_of_cell? w _ hw106_2)).trans hw106_2)⟩ (fun hHeld => ?_);refine with_tabW spec_l07Up.tab9 spec_l07Up.bits9 (fun HT_ HW_ => ?_);generalize wr.drew = w14 at HO_6 HB hx104_0 hx105_0 hx105_1 hx105_2 hx106_0 hx106_1 hx106_2 hHeld ⊢;refine pure_ (i := 0) (N := some 22) (v := ?_) (a' := ?_) #[true,false,false,false,false,false,false,false,false,false,false,false,false,false] rfl rfl (any_of HT_.out (by kernel_rfl)) (fun _ _ _ h => h) (Or.inl ⟨by rfl,?_⟩) ?_ ?_;rotate_left
             ·intro w';go_simp;with_reducible rfl
             rotate_left
             ·simp only [Act.put,List.setIfInBounds_toArray,List.set_cons_zero,List.set_cons_succ,i64_w,i32_w];rfl
             refine pure_ (i := 1) (N := some 23) (v := ?_) (a' := ?_) #[true,true,false,false,false,false,false,false,false,false,false,false,false,false] rfl rfl (any_of HT_.out (by kernel_rfl)) (fun _ _ _ h => h) (Or.inl ⟨by rfl,?_⟩) ?_ ?_;rotate_left
             ·intro w';go_simp;with_reducible rfl
             rotate_left
             ·simp only [Act.put,List.setIfInBounds_toArray,List.set_cons_zero,List.set_cons_succ,i64_w,i32_w];rfl
             refine pure_ (i := 2) (N := some 24) (v := ?_) (a' := ?_) #[true,true,true,false,false,false,false,false,false,false,false,false,false,false] rfl rfl (any_of HT_.out (by kernel_rfl)) (fun _ _ _ h => h) (Or.inl ⟨by rfl,?_⟩) ?_ ?_;rotate_left
             ·intro w';go_simp;with_reducible rfl
             rotate_left
             ·simp only [Act.put,List.setIfInBounds_toArray,List.set_cons_zero,List.set_cons_succ,i64_w,i32_w];rfl
             refine pure_ (i := 3) (N := some 25) (v := ?_) (a' := ?_) #[true,true,true,true,false,false,false,false,false,false,false,false,false,false] rfl rfl (any_of HT_.out (by kernel_rfl)) (fun _ _ _ h => h) (Or.inl ⟨by rfl,?_⟩) ?_ ?_;rotate_left
             ·intro w';go_simp;with_reducible rfl
             rotate_left
             ·simp only [Act.put,List.setIfInBounds_toArray,List.set_cons_zero,List.set_cons_succ,i64_w,i32_w];rfl
             refine pure_ (i := 8) (N := some 30) (v := ?_) (a' := ?_) #[true,true,true,true,false,false,false,false,true,false,false,false,false,false] rfl rfl (any_of HT_.out (by kernel_rfl)) (fun _ _ _ h => h) (Or.inl ⟨by rfl,?_⟩) ?_ ?_;rotate_left
             ·intro w';go_simp;with_reducible rfl
             rotate_left
             ·simp only [Act.put,List.setIfInBounds_toArray,List.set_cons_zero,List.set_cons_succ,i64_w,i32_w];rfl
             refine pure_ (i := 9) (N := some 31) (v := ?_) (a' := ?_) #[true,true,true,true,false,false,false,false,true,true,false,false,false,false] rfl rfl (any_of HT_.out (by kernel_rfl)) (fun _ _ _ h => h) (Or.inl ⟨by rfl,?_⟩) ?_ ?_;rotate_left
             ·intro w';go_simp;with_reducible rfl
             rotate_left
             ·simp only [Act.put,List.setIfInBounds_toArray,List.set_cons_zero,List.set_cons_succ,i64_w,i32_w];rfl
             refine pure_ (i := 10) (N := some 32) (v := ?_) (a' := ?_) #[true,true,true,true,false,false,false,false,true,true,true,false,false,false] rfl rfl (any_of HT_.out (by kernel_rfl)) (fun _ _ _ h => h) (Or.inl ⟨by rfl,?_⟩) ?_ ?_;rotate_left
             ·intro w';go_simp;with_reducible rfl
             rotate_left
             ·simp only [Act.put,List.setIfInBounds_toArray,List.set_cons_zero,List.set_cons_succ,i64_w,i32_w];rfl
             refine pure_ (i := 11) (N := some 33) (v := ?_) (a' := ?_) #[true,true,true,true,false,false,false,false,true,true,true,true,false,false] rfl rfl (any_of HT_.out (by kernel_rfl)) (fun _ _ _ h => h) (Or.inl ⟨by rfl,?_⟩) ?_ ?_;rotate_left
             ·intro w';go_simp;with_reducible rfl
             rotate_left
             ·simp only [Act.put,List.setIfInBounds_toArray,List.set_cons_zero,List.set_cons_succ,i64_w,i32_w];rfl
             refine take_ (i := 4) (N := some 26) (v := ?_) (a' := ?_) #[true,true,true,true,true,false,false,false,true,true,true,true,false,false] rfl rfl (take_ofW HT_.out HW_.out (by kernel_rfl)) (fun _ _ _ h => h) (Or.inl ⟨by rfl,?_⟩) hHeld ?_ ?_;rotate_left
             ·rintro w' ⟨s0,s1,s2,s3,s4,s5,s6⟩
              go_simp;with_reducible rfl
             rotate_left
             ·simp only [Act.put,List.setIfInBounds_toArray,List.set_cons_zero,List.set_cons_succ,i64_w,i32_w];rfl
             refine pure_ (i := 5) (N := some 27) (v := ?_) (a' := ?_) #[true,true,true,true,true,true,false,false,true,true,true,true,false,false] rfl rfl (any_of HT_.out (by kernel_rfl)) (fun _ _ _ h => h) (Or.inl ⟨by rfl,?_⟩) ?_ ?_;rotate_left
             ·intro w';go_simp;with_reducible rfl
             rotate_left
             ·simp only [Act.put,List.setIfInBounds_toArray,List.set_cons_zero,List.set_cons_succ,i64_w,i32_w];rfl
             refine pure_ (i := 6) (N := some 28) (v := ?_) (a' := ?_) #[true,true,true,true,true,true,true,false,true,true,true,true,false,false] rfl rfl (any_of HT_.out (by kernel_rfl)) (fun _ _ _ h => h) (Or.inl ⟨by rfl,?_⟩) ?_ ?_;rotate_left
             ·intro w';go_simp;with_reducible rfl
             rotate_left
             ·simp only [Act.put,List.setIfInBounds_toArray,List.set_cons_zero,List.set_cons_succ,i64_w,i32_w];rfl
             refine take_ (i := 7) (N := some 29) (v := ?_) (a' := ?_) #[true,true,true,true,true,true,true,true,true,true,true,true,false,false] rfl rfl (take_ofW HT_.out HW_.out (by kernel_rfl)) (fun _ _ _ h => h) (Or.inl ⟨by rfl,?_⟩) hHeld ?_ ?_;rotate_left
             ·rintro w' ⟨s0,s1,s2,s3,s4,s5,s6⟩
              go_simp;with_reducible rfl
             rotate_left
             ·simp only [Act.put,List.setIfInBounds_toArray,List.set_cons_zero,List.set_cons_succ,i64_w,i32_w];rfl
             refine take_ (i := 12) (N := some 34) (v := ?_) (a' := ?_) #[true,true,true,true,true,true,true,true,true,true,true,true,true,false] rfl rfl (take_ofW HT_.out HW_.out (by kernel_rfl)) (fun _ _ _ h => h) (Or.inl ⟨by rfl,?_⟩) hHeld ?_ ?_;rotate_left
             ·rintro w' ⟨s0,s1,s2,s3,s4,s5,s6⟩
              go_simp;with_reducible rfl
             rotate_left
             ·simp only [Act.put,List.setIfInBounds_toArray,List.set_cons_zero,List.set_cons_succ,i64_w,i32_w];rfl
             refine pure_ (i := 13) (N := some 35) (v := ?_) (a' := ?_) #[true,true,true,true,true,true,true,true,true,true,true,true,true,true] rfl rfl (any_of HT_.out (by kernel_rfl)) (fun _ _ _ h => h) (Or.inl ⟨by rfl,?_⟩) ?_ ?_;rotate_left
             ·intro w';go_simp;with_reducible rfl
             rotate_left
             ·simp only [Act.put,List.setIfInBounds_toArray,List.set_cons_zero,List.set_cons_succ,i64_w,i32_w];rfl
             refine done_ (done_of HT_.out (by kernel_rfl)) ?_;(try go_wp2)
             go_roundg k2
             case measure => have := HK1.out;have := HK2.out;omega
             case rel => exact ⟨(x9_2),(wrap64 (x9_2 + 1)),(by first | rfl | (simp only [IntKind.wrap_i64,wrap64];done) | (simp;done) | (simp [*];done)),(by first | rfl | (simp only [IntKind.wrap_i64,wrap64];done) | (simp;done) | (simp [*];done)),H',⟨by have := HK1.out;have := HK2.out;omega⟩,⟨by (with_reducible repeat (first | apply Kd.R_alloc | apply Kd.R_drewN | apply Kd.R_drew));exact HO_6.out⟩,⟨by repeat (first | (with_reducible first | exact HB.out | apply below_alloc | apply pw_below_drewN | apply below_drew1) | exact HB.out)⟩⟩
            ·rw [if_neg c12] at H;have c12b0 : (((rd_T73 l0 (rd x6_1 x9_2)).f1) == ((rd_T73 l0 x7_1).f1)) = false := beq_eq_false_iff_ne.mpr c12;have c12b1 : (((rd_T73 l0 (rd x6_1 x9_2)).f1) != ((rd_T73 l0 x7_1).f1)) = true := bne_iff_ne.mpr c12;have H' := Aside0.mk H;clear H;obtain ⟨Ao15,co15,eo15⟩ := Kd.R_slice HO_6.out;subst eo15;(try go_wp2);have n0_ := Aside0.mk (Kd.R_drew HO_6.out);have n1_ := Aside0.mk (below_drew1 HB.out);clear HO_6;clear HB;have HO_6 := n0_;have HB := n1_;clear n0_ n1_;have p104 : 0 ≤ (x9_2 : Int) := of_decide_eq_true (by first | (with_reducible assumption) | assumption);have q104 : x9_2 < (x6_1.length : Int) := of_decide_eq_true (by first | (with_reducible assumption) | assumption);obtain ⟨ad104,e104,hx104_0⟩ := Kd.at_int (Kd.R_reads' HO_6.out).2.2 x9_2 p104 q104;cases e104;replace p104 := eq_true p104;replace q104 := eq_true q104;have p105 : 0 ≤ ((rd x6_1 x9_2) : Int) := of_decide_eq_true (by first | (with_reducible assumption) | assumption);have q105 : (rd x6_1 x9_2) < (l0.length : Int) := of_decide_eq_true (by first | (with_reducible assumption) | assumption);obtain ⟨ad105,e105,hx105_0,hx105_1,hx105_2⟩ := at_T73 HR0.out (rd x6_1 x9_2) p105 q105;have hw105_2 := hx105_2;have hw105_1 := hx105_1;have hw105_0 := hx105_0;cases e105;replace hx105_0 := (HB.out.cell (World.block_lt_of_cell? w _ hx105_0)).trans hx105_0;replace hx105_1 := (HB.out.cell (World.block_lt_of_cell? w _ hx105_1)).trans hx105_1;replace hx105_2 := (HB.out.cell (World.block_lt_of_cell? w _ hx105_2)).trans hx105_2;replace p105 := eq_true p105;replace q105 := eq_true q105;have p106 : 0 ≤ (x7_1 : Int) := of_decide_eq_true (by first | (with_reducible assumption) | assumption);have q106 : x7_1 < (l0.length : Int) := of_decide_eq_true (by first | (with_reducible assumption) | assumption);obtain ⟨ad106,e106,hx106_0,hx106_1,hx106_2⟩ := at_T73 HR0.out x7_1 p106 q106;have hw106_2 := hx106_2;have hw106_1 := hx106_1;have hw106_0 := hx106_0;obtain rfl : ad105 = ad106 := (by injection e106);replace hx106_0 := (HB.out.cell (World.block_lt_of_cell? w _ hx106_0)).trans hx106_0;replace hx106_1 := (HB.out.cell (World.block_lt_of_cell? w _ hx106_1)).trans hx106_1;replace hx106_2 := (HB.out.cell (World.block_lt_of_cell? w _ hx106_2)).trans hx106_2;replace p106 := eq_true p106;replace q106 := eq_true q106;refine start_ (n := 14) (S := fun w' => w'.cell? (ad104.add (x9_2).toNat) = some (.int .i64 (rd x6_1 x9_2)) ∧ w'.cell? (ad105.add (((rd x6_1 x9_2)).toNat * 3)) = some (.int .i64 ((rd_T73 l0 (rd x6_1 x9_2)).f0)) ∧ w'.cell? ⟨(ad105.add (((rd x6_1 x9_2)).toNat * 3)).block,(ad105.add (((rd x6_1 x9_2)).toNat * 3)).off + 1,none⟩ = some (.int .i64 ((rd_T73 l0 (rd x6_1 x9_2)).f1)) ∧ w'.cell? ⟨(ad105.add (((rd x6_1 x9_2)).toNat * 3)).block,(ad105.add (((rd x6_1 x9_2)).toNat * 3)).off + 2,none⟩ = some (.bool ((rd_T73 l0 (rd x6_1 x9_2)).f2)) ∧ w'.cell? (ad105.add ((x7_1).toNat * 3)) = some (.int .i64 ((rd_T73 l0 x7_1).f0)) ∧ w'.cell? ⟨(ad105.add ((x7_1).toNat * 3)).block,(ad105.add ((x7_1).toNat * 3)).off + 1,none⟩ = some (.int .i64 ((rd_T73 l0 x7_1).f1)) ∧ w'.cell? ⟨(ad105.add ((x7_1).toNat * 3)).block,(ad105.add ((x7_1).toNat * 3)).off + 2,none⟩ = some (.bool ((rd_T73 l0 x7_1).f2))) (ds := []) #[false,false,false,false,false,false,false,false,false,false,false,false,false,false] (by kernel_rfl) rfl rfl ⟨hx104_0,((HB.out.cell (World.block_lt_of_cell? w _ hw105_0)).trans hw105_0),((HB.out.cell (World.block_lt_of_cell? w _ hw105_1)).trans hw105_1),((HB.out.cell (World.block_lt_of_cell? w _ hw105_2)).trans hw105_2),((HB.out.cell (World.block_lt_of_cell? w _ hw106_0)).trans hw106_0),((HB.out.cell (World.block_lt_of_cell? w _ hw106_1)).trans hw106_1),((HB.out.cell (World.block_lt_of_cell? w _ hw106_2)).trans hw106_2)⟩ (fun hHeld => ?_);refine with_tabW spec_l07Up.tab9 spec_l07Up.bits9 (fun HT_ HW_ => ?_);generalize wr.drew = w16 at HO_6 HB hx104_0 hx105_0 hx105_1 hx105_2 hx106_0 hx106_1 hx106_2 hHeld ⊢;refine pure_ (i := 0) (N := some 22) (v := ?_) (a' := ?_) #[true,false,false,false,false,false,false,false,false,false,false,false,false,false] rfl rfl (any_of HT_.out (by kernel_rfl)) (fun _ _ _ h => h) (Or.inl ⟨by rfl,?_⟩) ?_ ?_;rotate_left
             ·intro w';go_simp;with_reducible rfl
             rotate_left
             ·simp only [Act.put,List.setIfInBounds_toArray,List.set_cons_zero,List.set_cons_succ,i64_w,i32_w];rfl
             refine pure_ (i := 1) (N := some 23) (v := ?_) (a' := ?_) #[true,true,false,false,false,false,false,false,false,false,false,false,false,false] rfl rfl (any_of HT_.out (by kernel_rfl)) (fun _ _ _ h => h) (Or.inl ⟨by rfl,?_⟩) ?_ ?_;rotate_left
             ·intro w';go_simp;with_reducible rfl
             rotate_left
             ·simp only [Act.put,List.setIfInBounds_toArray,List.set_cons_zero,List.set_cons_succ,i64_w,i32_w];rfl
             refine pure_ (i := 2) (N := some 24) (v := ?_) (a' := ?_) #[true,true,true,false,false,false,false,false,false,false,false,false,false,false] rfl rfl (any_of HT_.out (by kernel_rfl)) (fun _ _ _ h => h) (Or.inl ⟨by rfl,?_⟩) ?_ ?_;rotate_left
             ·intro w';go_simp;with_reducible rfl
             rotate_left
             ·simp only [Act.put,List.setIfInBounds_toArray,List.set_cons_zero,List.set_cons_succ,i64_w,i32_w];rfl
             refine pure_ (i := 3) (N := some 25) (v := ?_) (a' := ?_) #[true,true,true,true,false,false,false,false,false,false,false,false,false,false] rfl rfl (any_of HT_.out (by kernel_rfl)) (fun _ _ _ h => h) (Or.inl ⟨by rfl,?_⟩) ?_ ?_;rotate_left
             ·intro w';go_simp;with_reducible rfl
             rotate_left
             ·simp only [Act.put,List.setIfInBounds_toArray,List.set_cons_zero,List.set_cons_succ,i64_w,i32_w];rfl
             refine pure_ (i := 8) (N := some 30) (v := ?_) (a' := ?_) #[true,true,true,true,false,false,false,false,true,false,false,false,false,false] rfl rfl (any_of HT_.out (by kernel_rfl)) (fun _ _ _ h => h) (Or.inl ⟨by rfl,?_⟩) ?_ ?_;rotate_left
             ·intro w';go_simp;with_reducible rfl
             rotate_left
             ·simp only [Act.put,List.setIfInBounds_toArray,List.set_cons_zero,List.set_cons_succ,i64_w,i32_w];rfl
             refine pure_ (i := 9) (N := some 31) (v := ?_) (a' := ?_) #[true,true,true,true,false,false,false,false,true,true,false,false,false,false] rfl rfl (any_of HT_.out (by kernel_rfl)) (fun _ _ _ h => h) (Or.inl ⟨by rfl,?_⟩) ?_ ?_;rotate_left
             ·intro w';go_simp;with_reducible rfl
             rotate_left
             ·simp only [Act.put,List.setIfInBounds_toArray,List.set_cons_zero,List.set_cons_succ,i64_w,i32_w];rfl
             refine pure_ (i := 10) (N := some 32) (v := ?_) (a' := ?_) #[true,true,true,true,false,false,false,false,true,true,true,false,false,false] rfl rfl (any_of HT_.out (by kernel_rfl)) (fun _ _ _ h => h) (Or.inl ⟨by rfl,?_⟩) ?_ ?_;rotate_left
             ·intro w';go_simp;with_reducible rfl
             rotate_left
             ·simp only [Act.put,List.setIfInBounds_toArray,List.set_cons_zero,List.set_cons_succ,i64_w,i32_w];rfl
             refine pure_ (i := 11) (N := some 33) (v := ?_) (a' := ?_) #[true,true,true,true,false,false,false,false,true,true,true,true,false,false] rfl rfl (any_of HT_.out (by kernel_rfl)) (fun _ _ _ h => h) (Or.inl ⟨by rfl,?_⟩) ?_ ?_;rotate_left
             ·intro w';go_simp;with_reducible rfl
             rotate_left
             ·simp only [Act.put,List.setIfInBounds_toArray,List.set_cons_zero,List.set_cons_succ,i64_w,i32_w];rfl
             refine take_ (i := 4) (N := some 26) (v := ?_) (a' := ?_) #[true,true,true,true,true,false,false,false,true,true,true,true,false,false] rfl rfl (take_ofW HT_.out HW_.out (by kernel_rfl)) (fun _ _ _ h => h) (Or.inl ⟨by rfl,?_⟩) hHeld ?_ ?_;rotate_left
             ·rintro w' ⟨s0,s1,s2,s3,s4,s5,s6⟩
              go_simp;with_reducible rfl
             rotate_left
             ·simp only [Act.put,List.setIfInBounds_toArray,List.set_cons_zero,List.set_cons_succ,i64_w,i32_w];rfl
             refine pure_ (i := 5) (N := some 27) (v := ?_) (a' := ?_) #[true,true,true,true,true,true,false,false,true,true,true,true,false,false] rfl rfl (any_of HT_.out (by kernel_rfl)) (fun _ _ _ h => h) (Or.inl ⟨by rfl,?_⟩) ?_ ?_;rotate_left
             ·intro w';go_simp;with_reducible rfl
             rotate_left
             ·simp only [Act.put,List.setIfInBounds_toArray,List.set_cons_zero,List.set_cons_succ,i64_w,i32_w];rfl
             refine pure_ (i := 6) (N := some 28) (v := ?_) (a' := ?_) #[true,true,true,true,true,true,true,false,true,true,true,true,false,false] rfl rfl (any_of HT_.out (by kernel_rfl)) (fun _ _ _ h => h) (Or.inl ⟨by rfl,?_⟩) ?_ ?_;rotate_left
             ·intro w';go_simp;with_reducible rfl
             rotate_left
             ·simp only [Act.put,List.setIfInBounds_toArray,List.set_cons_zero,List.set_cons_succ,i64_w,i32_w];rfl
             refine take_ (i := 7) (N := some 29) (v := ?_) (a' := ?_) #[true,true,true,true,true,true,true,true,true,true,true,true,false,false] rfl rfl (take_ofW HT_.out HW_.out (by kernel_rfl)) (fun _ _ _ h => h) (Or.inl ⟨by rfl,?_⟩) hHeld ?_ ?_;rotate_left
             ·rintro w' ⟨s0,s1,s2,s3,s4,s5,s6⟩
              go_simp;with_reducible rfl
             rotate_left
             ·simp only [Act.put,List.setIfInBounds_toArray,List.set_cons_zero,List.set_cons_succ,i64_w,i32_w];rfl
             refine take_ (i := 12) (N := some 34) (v := ?_) (a' := ?_) #[true,true,true,true,true,true,true,true,true,true,true,true,true,false] rfl rfl (take_ofW HT_.out HW_.out (by kernel_rfl)) (fun _ _ _ h => h) (Or.inl ⟨by rfl,?_⟩) hHeld ?_ ?_;rotate_left
             ·rintro w' ⟨s0,s1,s2,s3,s4,s5,s6⟩
              go_simp;with_reducible rfl
             rotate_left
             ·simp only [Act.put,List.setIfInBounds_toArray,List.set_cons_zero,List.set_cons_succ,i64_w,i32_w];rfl
             refine pure_ (i := 13) (N := some 35) (v := ?_) (a' := ?_) #[true,true,true,true,true,true,true,true,true,true,true,true,true,true] rfl rfl (any_of HT_.out (by kernel_rfl)) (fun _ _ _ h => h) (Or.inl ⟨by rfl,?_⟩) ?_ ?_;rotate_left
             ·intro w';go_simp;with_reducible rfl
             rotate_left
             ·simp only [Act.put,List.setIfInBounds_toArray,List.set_cons_zero,List.set_cons_succ,i64_w,i32_w];rfl
             refine done_ (done_of HT_.out (by kernel_rfl)) ?_;(try go_wp2)
             go_roundg k2
             case measure => have := HK1.out;have := HK2.out;omega
             case rel => exact ⟨(x8_2),(wrap64 (x9_2 + 1)),(by first | rfl | (simp only [IntKind.wrap_i64,wrap64];done) | (simp;done) | (simp [*];done)),(by first | rfl | (simp only [IntKind.wrap_i64,wrap64];done) | (simp;done) | (simp [*];done)),H',⟨by have := HK1.out;have := HK2.out;omega⟩,⟨by (with_reducible repeat (first | apply Kd.R_alloc | apply Kd.R_drewN | apply Kd.R_drew));exact HO_6.out⟩,⟨by repeat (first | (with_reducible first | exact HB.out | apply below_alloc | apply pw_below_drewN | apply below_drew1) | exact HB.out)⟩⟩
           ·rw [if_neg c11] at H;exact absurd H (by simp)
          ·rw [if_neg c10] at H;exact absurd H (by simp)
         ·rw [if_neg c9] at H;exact absurd H (by simp)
        ·rw [if_neg c8] at H;exact absurd H (by simp)
       ·rw [if_neg c7] at H;exact absurd H (by simp)
      ·rw [if_neg c6] at H;have c6b0 : decide (x9_2 < (x6_1.length : Int)) = false := decide_eq_false c6;clear c6
       by_cases c17 : 0 ≤ x7_1
       ·rw [if_pos c17] at H;have c17b0 : decide (0 ≤ x7_1) = true := decide_eq_true c17;clear c17
        by_cases c18 : x7_1 < (l0.length : Int)
        ·rw [if_pos c18] at H;have c18b0 : decide (x7_1 < (l0.length : Int)) = true := decide_eq_true c18;clear c18
         by_cases c19 : (((rd_T73 l0 x7_1).f2) != (decide (x8_2 ≥ 0))) = true
         ·rw [if_pos c19] at H;have c19b0 : (((rd_T73 l0 x7_1).f2) != (decide (x8_2 ≥ 0))) = true := c19;(try (have c19b1 : decide (((rd_T73 l0 x7_1).f2) = (decide (x8_2 ≥ 0))) = false := by simpa using c19));(try (have c19b2 : (((rd_T73 l0 x7_1).f2) == (decide (x8_2 ≥ 0))) = false := by simpa using c19));(try (have c19b3 : ¬ (((rd_T73 l0 x7_1).f2) = (decide (x8_2 ≥ 0))) := by simpa using c19));clear c19;obtain ⟨y108,hy108⟩ : ∃ y_ : List Int,y_ = (([] : List Int)) := ⟨_,rfl⟩
          replace H : (some (y108,false)) = some (r1,r2) := by first | (rw [hy108];with_reducible exact H) | (have H2_ := (Option.bind_some _ _).symm.trans H;rw [hy108];with_reducible exact H2_) | (have H2_ := (Option.bind_some _ _).symm.trans H;with_reducible exact H2_) | with_reducible exact H | (rw [hy108];exact H) | exact H
          have Ny108 := Aside0.mk hy108;clear hy108;simp only [Option.some.injEq,Prod.mk.injEq] at H;obtain ⟨rfl,rfl⟩ := H;obtain ⟨Ao20,co20,eo20⟩ := Kd.R_slice HO_6.out;subst eo20;have p107 : 0 ≤ (x7_1 : Int) := of_decide_eq_true (by first | (with_reducible assumption) | assumption);have q107 : x7_1 < (l0.length : Int) := of_decide_eq_true (by first | (with_reducible assumption) | assumption);obtain ⟨ad107,e107,hx107_0,hx107_1,hx107_2⟩ := at_T73 HR0.out x7_1 p107 q107;cases e107;replace hx107_0 := (HB.out.cell (World.block_lt_of_cell? w _ hx107_0)).trans hx107_0;replace hx107_1 := (HB.out.cell (World.block_lt_of_cell? w _ hx107_1)).trans hx107_1;replace hx107_2 := (HB.out.cell (World.block_lt_of_cell? w _ hx107_2)).trans hx107_2;replace p107 := eq_true p107;replace q107 := eq_true q107
          go_wp2_with (first | ((with_reducible refine gate_dst (N := 45) rfl ?_);refine Kd.R_lit (Kd.int .i64) _ 3 ?hg (N := 45) ?hd (xs := ([] : List Int)) (inner := []) (ok := fun _ => True) (okp := fun _ => True) ?hr ?hp (fun _ hk => hk) trivial (Below.refl _ _) (Nat.le_refl _) (by simp) ?_;(case hd => rfl);(case hg => rfl);(case hr => first | (go_simp;done) | (go_simp;rfl));(case hp => exact (Reps.none _ _));intro v109 w21 ho22 hb hg_ hnew_;clear hg_ hnew_;(first | rw [← Ny108.out] at ho22 | (simp only [Int.reduceToNat] at ho22;rw [← Ny108.out] at ho22));have n0_ := Aside0.mk (Kd.R_elder' (by (with_reducible repeat (first | apply Kd.R_alloc | apply Kd.R_drewN | apply Kd.R_drew));exact HO_6.out) (Kd.R_base ho22) hb);have n1_ := Aside0.mk (Kd.R_lower (Kd.R_new' ho22 (Kd.R_lt (by (with_reducible repeat (first | apply Kd.R_alloc | apply Kd.R_drewN | apply Kd.R_drew));exact HO_6.out))) (below_size (by repeat (first | (with_reducible first | exact HB.out | apply below_alloc | apply pw_below_drewN | apply below_drew1) | exact HB.out))));have n2_ := Aside0.mk (below_step (by repeat (first | (with_reducible first | exact HB.out | apply below_alloc | apply pw_below_drewN | apply below_drew1) | exact HB.out)) hb);clear HO_6;clear HB;have HO_6 := n0_;have HO110 := n1_;have HB := n2_;clear n0_ n1_ n2_;clear hb ho22))
          go_ret2
          exact ⟨_,by first | rfl | (simp [errW_none,errW_some,IntKind.wrap_i64,wrap64];done) | (simp [errW_none,errW_some] <;> rfl) | (simp [*,errW_none,errW_some] <;> rfl),by (with_reducible repeat (first | apply Kd.R_alloc | apply Kd.R_drewN | apply Kd.R_drew));exact Kd.R_mono HO110.out (fun _ hk => trivial),by repeat (first | (with_reducible first | exact HB.out | apply below_alloc | apply pw_below_drewN | apply below_drew1) | exact HB.out)⟩
         ·rw [if_neg c19] at H
          have c19b0 : (((rd_T73 l0 x7_1).f2) != (decide (x8_2 ≥ 0))) = false := by simpa using c19
          (try (have c19b1 : decide (((rd_T73 l0 x7_1).f2) = (decide (x8_2 ≥ 0))) = true := by simpa using c19));(try (have c19b2 : (((rd_T73 l0 x7_1).f2) == (decide (x8_2 ≥ 0))) = true := by simpa using c19));clear c19
          by_cases c23 : x8_2 < 0
          ·rw [if_pos c23] at H;have c23b0 : decide (x8_2 < 0) = true := decide_eq_true c23
           have c19z : ((rd_T73 l0 x7_1).f2) = false := by have h_ := c19b0;rw [show decide (x8_2 ≥ 0) = false from decide_eq_false (by omega)] at h_;simpa using h_
           have c19y : decide (0 ≤ x8_2) = false := decide_eq_false (by omega);clear c23
           by_cases c24 : x6_1.length < 17592186044416
           ·rw [if_pos c24] at H;have LMc24 := Aside0.mk c24;clear c24;obtain ⟨y111,hy111⟩ : ∃ y_ : List Int,y_ = (x6_1 ++ [x7_1]) := ⟨_,rfl⟩
            replace H : (spec_l07Up.l0 k2 l0 a1 y111 (wrap64 (x7_1 + 1))) = some (r1,r2) := by first | (rw [hy111];with_reducible exact H) | (have H2_ := (Option.bind_some _ _).symm.trans H;rw [hy111];with_reducible exact H2_) | (have H2_ := (Option.bind_some _ _).symm.trans H;with_reducible exact H2_) | with_reducible exact H | (rw [hy111];exact H) | exact H
            have Ny111 := Aside0.mk hy111;clear hy111;have H' := Aside0.mk H;clear H;obtain ⟨Ao25,co25,eo25⟩ := Kd.R_slice HO_6.out;subst eo25;have p107 : 0 ≤ (x7_1 : Int) := of_decide_eq_true (by first | (with_reducible assumption) | assumption);have q107 : x7_1 < (l0.length : Int) := of_decide_eq_true (by first | (with_reducible assumption) | assumption);obtain ⟨ad107,e107,hx107_0,hx107_1,hx107_2⟩ := at_T73 HR0.out x7_1 p107 q107;cases e107;replace hx107_0 := (HB.out.cell (World.block_lt_of_cell? w _ hx107_0)).trans hx107_0;replace hx107_1 := (HB.out.cell (World.block_lt_of_cell? w _ hx107_1)).trans hx107_1;replace hx107_2 := (HB.out.cell (World.block_lt_of_cell? w _ hx107_2)).trans hx107_2;replace p107 := eq_true p107;replace q107 := eq_true q107
            go_wp2_with (first | ((with_reducible refine gate_builtin (b := .append) (xs := #[.tmp 48,.tmp 50]) rfl ?_);at_builtin;refine Kd.R_append (Kd.int .i64) (w0 := w) w.heap.size rfl (.tmp 48) (.tmp 50) 77 3 (.int .i64 0) 8 rfl Try.underlying77 info3 rfl (by decide) (by omega) (.slice Ao25 x6_1.length co25) x6_1 x7_1 [.int .i64 x7_1] (fun _ => True) (fun _ => False) rfl rfl ?aP (fun _ hk => hk.elim) ?aF ?aO ?aB ?aS ?aL ?_;(case aP => exact rfl);(case aB => exact (by repeat (first | (with_reducible first | exact HB.out | apply below_alloc | apply pw_below_drewN | apply below_drew1) | exact HB.out)));(case aF => exact (fun _ _ => trivial));(case aO => exact (by (with_reducible repeat (first | apply Kd.R_alloc | apply Kd.R_drewN | apply Kd.R_drew));exact HO_6.out));(case aS => exact (below_size (by repeat (first | (with_reducible first | exact HB.out | apply below_alloc | apply pw_below_drewN | apply below_drew1) | exact HB.out))));(case aL => have := LMc24.out;omega);intro v112 w26 ho hb hg hat;rw [← Ny111.out] at ho;have n0_ := Aside0.mk (hb);have n1_ := Aside0.mk (ho);clear HB;clear HO_6;have HB := n0_;have HO113 := n1_;clear n0_ n1_;clear ho hb hg hat))
            go_roundg k2
            case measure => have := HK1.out;have := HK2.out;omega
            case rel => exact ⟨(y111),(wrap64 (x7_1 + 1)),(by first | rfl | (simp only [IntKind.wrap_i64,wrap64];done) | (simp;done) | (simp [*];done)),H',⟨by have := HK1.out;have := HK2.out;omega⟩,⟨by (with_reducible repeat (first | apply Kd.R_alloc | apply Kd.R_drewN | apply Kd.R_drew));exact HO113.out⟩,⟨by repeat (first | (with_reducible first | exact HB.out | apply below_alloc | apply pw_below_drewN | apply below_drew1) | exact HB.out)⟩⟩
           ·rw [if_neg c24] at H;exact absurd H (by simp)
          ·rw [if_neg c23] at H;have c23b0 : decide (x8_2 < 0) = false := decide_eq_false c23
           have c19z : (!(rd_T73 l0 x7_1).f2) = false := by have h_ := c19b0;rw [show decide (x8_2 ≥ 0) = true from decide_eq_true (by omega)] at h_;simpa using h_
           have c19y : decide (0 ≤ x8_2) = true := decide_eq_true (by omega);clear c23;obtain ⟨y114,hy114⟩ : ∃ y_ : List Int,y_ = (([] : List Int)) := ⟨_,rfl⟩
           replace H : (if 0 ≤ x8_2 then (if x8_2 ≤ (x6_1.length : Int) then ((some (x6_1.take (x8_2 : Int).toNat : List Int)).bind fun y117 => (if y114.length + y117.length < 17592186044416 then ((some (y114 ++ y117 : List Int)).bind fun y121 => (if 0 ≤ (wrap64 (x8_2 + 1)) then (if (wrap64 (x8_2 + 1)) ≤ (x6_1.length : Int) then ((some (x6_1.drop ((wrap64 (x8_2 + 1)) : Int).toNat : List Int)).bind fun y124 => (if y121.length + y124.length < 17592186044416 then (spec_l07Up.l0 k2 l0 a1 (y121 ++ y124) (wrap64 (x7_1 + 1))) else (none))) else (none)) else (none))) else (none))) else (none)) else (none)) = some (r1,r2) := by first | (rw [hy114];with_reducible exact H) | (have H2_ := (Option.bind_some _ _).symm.trans H;rw [hy114];with_reducible exact H2_) | (have H2_ := (Option.bind_some _ _).symm.trans H;with_reducible exact H2_) | with_reducible exact H | (rw [hy114];exact H) | exact H
           have Ny114 := Aside0.mk hy114;clear hy114
           by_cases c27 : 0 ≤ x8_2
           ·rw [if_pos c27] at H;have c27b0 := eq_true c27;have c27b1 : decide (0 ≤ x8_2) = true := decide_eq_true c27;clear c27
            by_cases c28 : x8_2 ≤ (x6_1.length : Int)
            ·rw [if_pos c28] at H;have c28b0 := eq_true c28;have c28b1 : decide (x8_2 ≤ (x6_1.length : Int)) = true := decide_eq_true c28;clear c28;obtain ⟨y117,hy117⟩ : ∃ y_ : List Int,y_ = (x6_1.take (x8_2 : Int).toNat) := ⟨_,rfl⟩
             replace H : (if y114.length + y117.length < 17592186044416 then ((some (y114 ++ y117 : List Int)).bind fun y121 => (if 0 ≤ (wrap64 (x8_2 + 1)) then (if (wrap64 (x8_2 + 1)) ≤ (x6_1.length : Int) then ((some (x6_1.drop ((wrap64 (x8_2 + 1)) : Int).toNat : List Int)).bind fun y124 => (if y121.length + y124.length < 17592186044416 then (spec_l07Up.l0 k2 l0 a1 (y121 ++ y124) (wrap64 (x7_1 + 1))) else (none))) else (none)) else (none))) else (none)) = some (r1,r2) := by first | (rw [hy117];with_reducible exact H) | (have H2_ := (Option.bind_some _ _).symm.trans H;rw [hy117];with_reducible exact H2_) | (have H2_ := (Option.bind_some _ _).symm.trans H;with_reducible exact H2_) | with_reducible exact H | (rw [hy117];exact H) | exact H
             have Ny117 := Aside0.mk hy117;clear hy117
             by_cases c29 : y114.length + y117.length < 17592186044416
             ·rw [if_pos c29] at H;have LMc29 := Aside0.mk c29;clear c29;obtain ⟨y121,hy121⟩ : ∃ y_ : List Int,y_ = (y114 ++ y117) := ⟨_,rfl⟩
              replace H : (if 0 ≤ (wrap64 (x8_2 + 1)) then (if (wrap64 (x8_2 + 1)) ≤ (x6_1.length : Int) then ((some (x6_1.drop ((wrap64 (x8_2 + 1)) : Int).toNat : List Int)).bind fun y124 => (if y121.length + y124.length < 17592186044416 then (spec_l07Up.l0 k2 l0 a1 (y121 ++ y124) (wrap64 (x7_1 + 1))) else (none))) else (none)) else (none)) = some (r1,r2) := by first | (rw [hy121];with_reducible exact H) | (have H2_ := (Option.bind_some _ _).symm.trans H;rw [hy121];with_reducible exact H2_) | (have H2_ := (Option.bind_some _ _).symm.trans H;with_reducible exact H2_) | with_reducible exact H | (rw [hy121];exact H) | exact H
              have Ny121 := Aside0.mk hy121;clear hy121;obtain ⟨ji30,hji30⟩ : ∃ j_ : Int,(wrap64 (x8_2 + 1)) = j_ := ⟨_,rfl⟩
              replace H : (if 0 ≤ (ji30) then (if (ji30) ≤ (x6_1.length : Int) then ((some (x6_1.drop ((ji30) : Int).toNat : List Int)).bind fun y124 => (if y121.length + y124.length < 17592186044416 then (spec_l07Up.l0 k2 l0 a1 (y121 ++ y124) (wrap64 (x7_1 + 1))) else (none))) else (none)) else (none)) = some (r1,r2) := by first | (rw [hji30] at H;exact H) | (simp only [hji30] at H ⊢;exact H)
              have hji30w : (IntKind.i64.wrap (x8_2 + 1)) = ji30 := (i64_w _).trans hji30
              by_cases c31 : 0 ≤ (ji30)
              ·rw [if_pos c31] at H;have c31b0 := eq_true c31;have c31b1 : decide (0 ≤ (ji30)) = true := decide_eq_true c31;clear c31
               by_cases c32 : (ji30) ≤ (x6_1.length : Int)
               ·rw [if_pos c32] at H;have c32b0 := eq_true c32;have c32b1 : decide ((ji30) ≤ (x6_1.length : Int)) = true := decide_eq_true c32;clear c32;obtain ⟨y124,hy124⟩ : ∃ y_ : List Int,y_ = (x6_1.drop ((ji30) : Int).toNat) := ⟨_,rfl⟩
                replace H : (if y121.length + y124.length < 17592186044416 then (spec_l07Up.l0 k2 l0 a1 (y121 ++ y124) (wrap64 (x7_1 + 1))) else (none)) = some (r1,r2) := by first | (rw [hy124];with_reducible exact H) | (have H2_ := (Option.bind_some _ _).symm.trans H;rw [hy124];with_reducible exact H2_) | (have H2_ := (Option.bind_some _ _).symm.trans H;with_reducible exact H2_) | with_reducible exact H | (rw [hy124];exact H) | exact H
                have Ny124 := Aside0.mk hy124;clear hy124
                by_cases c33 : y121.length + y124.length < 17592186044416
                ·rw [if_pos c33] at H;have LMc33 := Aside0.mk c33;clear c33;obtain ⟨y128,hy128⟩ : ∃ y_ : List Int,y_ = (y121 ++ y124) := ⟨_,rfl⟩
                 replace H : (spec_l07Up.l0 k2 l0 a1 y128 (wrap64 (x7_1 + 1))) = some (r1,r2) := by first | (rw [hy128];with_reducible exact H) | (have H2_ := (Option.bind_some _ _).symm.trans H;rw [hy128];with_reducible exact H2_) | (have H2_ := (Option.bind_some _ _).symm.trans H;with_reducible exact H2_) | with_reducible exact H | (rw [hy128];exact H) | exact H
                 have Ny128 := Aside0.mk hy128;clear hy128;have H' := Aside0.mk H;clear H;obtain ⟨Ao34,co34,eo34⟩ := Kd.R_slice HO_6.out;subst eo34;have p107 : 0 ≤ (x7_1 : Int) := of_decide_eq_true (by first | (with_reducible assumption) | assumption);have q107 : x7_1 < (l0.length : Int) := of_decide_eq_true (by first | (with_reducible assumption) | assumption);obtain ⟨ad107,e107,hx107_0,hx107_1,hx107_2⟩ := at_T73 HR0.out x7_1 p107 q107;cases e107;replace hx107_0 := (HB.out.cell (World.block_lt_of_cell? w _ hx107_0)).trans hx107_0;replace hx107_1 := (HB.out.cell (World.block_lt_of_cell? w _ hx107_1)).trans hx107_1;replace hx107_2 := (HB.out.cell (World.block_lt_of_cell? w _ hx107_2)).trans hx107_2;replace p107 := eq_true p107;replace q107 := eq_true q107;(try go_wp2);have n0_ := Aside0.mk (Kd.R_drew HO_6.out);have n1_ := Aside0.mk (below_drew1 HB.out);clear HO_6;clear HB;have HO_6 := n0_;have HB := n1_;clear n0_ n1_;have q36 : (x8_2 : Int) ≤ ((x6_1.length : Int) : Int) := of_decide_eq_true (by first | (with_reducible assumption) | assumption);obtain ⟨i036,hi036,_,hsz36,_⟩ := info_parts info3;have hroom36 : x6_1.length ≤ co34 := (Kd.R_reads' HO_6.out).2.1;have hC36 : Kd.C (Kd.int .i64) _ Ao34 x6_1.length x6_1 := (Kd.R_reads' HO_6.out).2.2;have hcut36 := cut_to (P := Try.prog) 77 3 .i64 Try.underlying77 hi036 Ao34 x6_1.length co34 x8_2 (of_decide_eq_true (by first | (with_reducible assumption) | assumption)) q36 hroom36;have hr36 := Kd.C_take (m := (x8_2 : Int).toNat) hC36 (by omega);have hy36 : y117.length = (x8_2 : Int).toNat := (by rw [Ny117.out,List.length_take];omega);rw [← Ny117.out] at hr36;rw [← hy36] at hcut36;have HR120 := Aside0.mk hr36;have HC120 := Aside0.mk (show y117.length ≤ co34 from by omega);clear hr36 hC36 hroom36 hi036 hsz36;have KY36 := Aside0.mk hy36;clear hy36;have KL36 := Aside0.mk (show (x8_2 : Int).toNat ≤ x6_1.length from by omega);replace q36 := eq_true q36;have q37 : ((ji30) : Int) ≤ ((x6_1.length : Int) : Int) := of_decide_eq_true (by first | (with_reducible assumption) | assumption);obtain ⟨i037,hi037,_,hsz37,_⟩ := info_parts info3;have hroom37 : x6_1.length ≤ co34 := (Kd.R_reads' HO_6.out).2.1;have hC37 : Kd.C (Kd.int .i64) _ Ao34 x6_1.length x6_1 := (Kd.R_reads' HO_6.out).2.2;have q037 : (0 : Int) ≤ ((ji30) : Int) := of_decide_eq_true (by first | (with_reducible assumption) | assumption);have hcut37 := cut_from (P := Try.prog) 77 3 .i64 Try.underlying77 hi037 1 hsz37 Ao34 x6_1.length co34 (ji30) q037 q37;have hr37 := Kd.C_drop (m := ((ji30) : Int).toNat) (c := co34) hC37 (by omega) hroom37;obtain ⟨A37,hA37⟩ : ∃ A1,A1 = (if co34 = ((ji30) : Int).toNat then Ao34 else (Ao34 : Option Addr).map (·.add (((ji30) : Int).toNat * 1))) := ⟨_,rfl⟩;obtain ⟨c37,hc37⟩ : ∃ c1,c1 = co34 - ((ji30) : Int).toNat := ⟨_,rfl⟩;have hy37 : y124.length = x6_1.length - ((ji30) : Int).toNat := (by rw [Ny124.out,List.length_drop] <;> omega);rw [show (x6_1).drop ((ji30) : Int).toNat = y124 from Ny124.out.symm] at hr37;replace hr37 : Kd.C (Kd.int .i64) _ A37 y124.length y124 := (by rw [hA37];exact hr37);rw [← hy37,← hA37,← hc37] at hcut37;have HR127 := Aside0.mk hr37;have HC127 := Aside0.mk (show y124.length ≤ c37 from by rw [hy37,hc37];exact Nat.sub_le_sub_right hroom37 _);clear hr37 hC37 hroom37 hi037 hsz37 hc37;have KY37 := Aside0.mk hy37;have KA37 := Aside0.mk hA37;clear hy37 hA37;have KL37 := Aside0.mk (show ((ji30) : Int).toNat ≤ x6_1.length from by omega);replace q37 := eq_true q37;refine start_ (n := 11) (S := fun w' => True) (ds := []) #[false,false,false,false,false,false,false,false,false,false,false] (by kernel_rfl) rfl rfl trivial (fun hHeld => ?_);refine with_tabW spec_l07Up.tab15 spec_l07Up.bits15 (fun HT_ HW_ => ?_);generalize wr.drew = w35 at HO_6 HB HR120 HR127 hHeld ⊢;refine pure_ (i := 1) (N := some 53) (v := ?_) (a' := ?_) #[false,true,false,false,false,false,false,false,false,false,false] rfl rfl (any_of HT_.out (by kernel_rfl)) (fun _ _ _ h => h) (Or.inl ⟨by rfl,?_⟩) ?_ ?_;rotate_left
                 ·intro w';go_simp;with_reducible rfl
                 rotate_left
                 ·simp only [Act.put,List.setIfInBounds_toArray,List.set_cons_zero,List.set_cons_succ,i64_w,i32_w];rfl
                 refine pure_ (i := 2) (N := some 54) (v := ?_) (a' := ?_) #[false,true,true,false,false,false,false,false,false,false,false] rfl rfl (any_of HT_.out (by kernel_rfl)) (fun _ _ _ h => h) (Or.inl ⟨by rfl,?_⟩) ?_ ?_;rotate_left
                 ·intro w';go_simp;with_reducible rfl
                 rotate_left
                 ·simp only [Act.put,List.setIfInBounds_toArray,List.set_cons_zero,List.set_cons_succ,i64_w,i32_w];rfl
                 refine pure_ (i := 3) (N := some 55) (v := ?_) (a' := ?_) #[false,true,true,true,false,false,false,false,false,false,false] rfl rfl (any_of HT_.out (by kernel_rfl)) (fun _ _ _ h => h) (Or.inl ⟨by rfl,?_⟩) ?_ ?_;rotate_left
                 ·intro w';go_simp;with_reducible rfl
                 rotate_left
                 ·simp only [Act.put,List.setIfInBounds_toArray,List.set_cons_zero,List.set_cons_succ,i64_w,i32_w];rfl
                 refine pure_ (i := 5) (N := some 57) (v := ?_) (a' := ?_) #[false,true,true,true,false,true,false,false,false,false,false] rfl rfl (any_of HT_.out (by kernel_rfl)) (fun _ _ _ h => h) (Or.inl ⟨by rfl,?_⟩) ?_ ?_;rotate_left
                 ·intro w';go_simp;with_reducible rfl
                 rotate_left
                 ·simp only [Act.put,List.setIfInBounds_toArray,List.set_cons_zero,List.set_cons_succ,i64_w,i32_w];rfl
                 refine pure_ (i := 6) (N := some 58) (v := ?_) (a' := ?_) #[false,true,true,true,false,true,true,false,false,false,false] rfl rfl (any_of HT_.out (by kernel_rfl)) (fun _ _ _ h => h) (Or.inl ⟨by rfl,?_⟩) ?_ ?_;rotate_left
                 ·intro w';go_simp;with_reducible rfl
                 rotate_left
                 ·simp only [Act.put,List.setIfInBounds_toArray,List.set_cons_zero,List.set_cons_succ,i64_w,i32_w];rfl
                 refine pure_ (i := 7) (N := some 59) (v := ?_) (a' := ?_) #[false,true,true,true,false,true,true,true,false,false,false] rfl rfl (any_of HT_.out (by kernel_rfl)) (fun _ _ _ h => h) (Or.inl ⟨by rfl,?_⟩) ?_ ?_;rotate_left
                 ·intro w';go_simp;with_reducible rfl
                 rotate_left
                 ·simp only [Act.put,List.setIfInBounds_toArray,List.set_cons_zero,List.set_cons_succ,i64_w,i32_w];rfl
                 refine pure_ (i := 8) (N := some 60) (v := ?_) (a' := ?_) #[false,true,true,true,false,true,true,true,true,false,false] rfl rfl (any_of HT_.out (by kernel_rfl)) (fun _ _ _ h => h) (Or.inl ⟨by rfl,?_⟩) ?_ ?_;rotate_left
                 ·intro w';go_simp;with_reducible rfl
                 rotate_left
                 ·simp only [Act.put,List.setIfInBounds_toArray,List.set_cons_zero,List.set_cons_succ,i64_w,i32_w];rfl
                 refine one_ (i := 0) (N := some 52) #[true,true,true,true,false,true,true,true,true,false,false] rfl rfl (one_of HT_.out (by kernel_rfl)) (by decide) (fun K hK => ?_);refine Kd.R_lit_step (Kd.int .i64) _ 3 ?hg (N := 52) ?hd (xs := ([] : List Int)) (inner := []) (ok := fun _ => True) (okp := fun _ => True) ?hr ?hp (fun _ hk => hk) trivial (Below.refl _ _) (Nat.le_refl _) (by simp) ?_;(case hd => rfl);(case hg => rfl);(case hr => first | (go_simp;done) | (go_simp;rfl));(case hp => exact (Reps.none _ _));intro v115 w38 ho39 hb hg_ hnew_;clear hg_ hnew_;(first | rw [← Ny114.out] at ho39 | (simp only [Int.reduceToNat] at ho39;rw [← Ny114.out] at ho39));have n0_ := Aside0.mk (Kd.R_elder' (by (with_reducible repeat (first | apply Kd.R_alloc | apply Kd.R_drewN | apply Kd.R_drew));exact HO_6.out) (Kd.R_base ho39) hb);have n1_ := Aside0.mk (Kd.R_lower (Kd.R_new' ho39 (Kd.R_lt (by (with_reducible repeat (first | apply Kd.R_alloc | apply Kd.R_drewN | apply Kd.R_drew));exact HO_6.out))) (below_size (by repeat (first | (with_reducible first | exact HB.out | apply below_alloc | apply pw_below_drewN | apply below_drew1) | exact HB.out))));have n2_ := Aside0.mk (Kd.C_below (by repeat (first | (with_reducible exact HR120.out) | (with_reducible refine Kd.C_alloc ?_ _) | (with_reducible refine Kd.C_drewN ?_ _) | (with_reducible refine Kd.C_drew ?_) | exact HR120.out)) hb);have n3_ := Aside0.mk (Kd.C_below (by repeat (first | (with_reducible exact HR127.out) | (with_reducible refine Kd.C_alloc ?_ _) | (with_reducible refine Kd.C_drewN ?_ _) | (with_reducible refine Kd.C_drew ?_) | exact HR127.out)) hb);have n4_ := Aside0.mk (below_step (by repeat (first | (with_reducible first | exact HB.out | apply below_alloc | apply pw_below_drewN | apply below_drew1) | exact HB.out)) hb);clear HO_6;clear HR120;clear HR127;clear HB;have HO_6 := n0_;have HO116 := n1_;have HR120 := n2_;have HR127 := n3_;have HB := n4_;clear n0_ n1_ n2_ n3_ n4_;clear hb ho39;refine hK.out _ _ trivial (fun hHeld => ?_);clear hK K;refine norm_ (a' := ?_) ?_ ?_;rotate_left
                 ·show Act.put _ (some 52) _ = _
                  simp only [Act.put,List.setIfInBounds_toArray,List.set_cons_zero,List.set_cons_succ,i64_w,i32_w];rfl
                 refine one_ (i := 4) (N := some 56) #[true,true,true,true,true,true,true,true,true,false,false] rfl rfl (one_of HT_.out (by kernel_rfl)) (by decide) (fun K hK => ?_);refine Kd.R_append_rows_step (Kd.int .i64) (w0 := w) w.heap.size (by rfl) (.tmp 52) (.tmp 55) 77 3 (.int .i64 0) 8 rfl Try.underlying77 info3 rfl (by decide) (by omega) v115 y114 y117 _ _ _ (fun k_ => some k_ ≠ (.slice Ao34 x6_1.length co34 : Value).ownBlock) (fun _ => False) rfl rfl ?aO ?aR (fun _ _ h => h) (fun _ h => h.elim) ?aF ?aB ?aS ?aL ?_;(case aR => repeat (first | exact (by repeat (first | (with_reducible exact HR120.out) | (with_reducible refine Kd.C_alloc ?_ _) | (with_reducible refine Kd.C_drewN ?_ _) | (with_reducible refine Kd.C_drew ?_) | exact HR120.out)) | (with_reducible refine Kd.C_alloc ?_ _) | (with_reducible refine Kd.C_drewN ?_ _) | (with_reducible refine Kd.C_drew ?_)));(case aB => exact (by repeat (first | (with_reducible first | exact HB.out | apply below_alloc | apply pw_below_drewN | apply below_drew1) | exact HB.out)));(case aF => exact (fun k_ hk => Kd.fresh' (Kd.R_lt (by (with_reducible repeat (first | apply Kd.R_alloc | apply Kd.R_drewN | apply Kd.R_drew));exact HO_6.out)) k_ hk));(case aO => exact (by (with_reducible repeat (first | apply Kd.R_alloc | apply Kd.R_drewN | apply Kd.R_drew));exact Kd.R_mono HO116.out (fun _ hk => hk.2)));(case aS => exact (below_size (by repeat (first | (with_reducible first | exact HB.out | apply below_alloc | apply pw_below_drewN | apply below_drew1) | exact HB.out))));(case aL => have := LMc29.out;omega);intro v122 w40 ho hb hg hat;rw [← Ny121.out] at ho;have n0_ := Aside0.mk (Kd.R_after (ok := (fun _ => True)) (by (with_reducible repeat (first | apply Kd.R_alloc | apply Kd.R_drewN | apply Kd.R_drew));exact HO_6.out) hg hat);have n1_ := Aside0.mk (hb);have n2_ := Aside0.mk ((show Kd.C (Kd.int .i64) w40 Ao34 y117.length y117 from by rw [Ny117.out];exact Kd.C_take (m := (x8_2 : Int).toNat) ((Kd.R_reads' (Kd.R_after (ok := (fun _ => True)) (by (with_reducible repeat (first | apply Kd.R_alloc | apply Kd.R_drewN | apply Kd.R_drew));exact HO_6.out) hg hat)).2.2) KL36.out));have n3_ := Aside0.mk ((show Kd.C (Kd.int .i64) w40 A37 y124.length y124 from by rw [Ny124.out,KA37.out];exact Kd.C_drop (m := ((ji30) : Int).toNat) (c := co34) ((Kd.R_reads' (Kd.R_after (ok := (fun _ => True)) (by (with_reducible repeat (first | apply Kd.R_alloc | apply Kd.R_drewN | apply Kd.R_drew));exact HO_6.out) hg hat)).2.2) KL37.out ((Kd.R_reads' (Kd.R_after (ok := (fun _ => True)) (by (with_reducible repeat (first | apply Kd.R_alloc | apply Kd.R_drewN | apply Kd.R_drew));exact HO_6.out) hg hat)).2.1)));have n4_ := Aside0.mk (ho);clear HO_6;clear HB;clear HR120;clear HR127;clear HO116;have HO_6 := n0_;have HB := n1_;have HR120 := n2_;have HR127 := n3_;have HO123 := n4_;clear n0_ n1_ n2_ n3_ n4_;clear ho hb hg hat;refine hK.out _ _ trivial (fun hHeld => ?_);clear hK K;refine norm_ (a' := ?_) ?_ ?_;rotate_left
                 ·show Act.put _ (some 56) _ = _
                  simp only [Act.put,List.setIfInBounds_toArray,List.set_cons_zero,List.set_cons_succ,i64_w,i32_w];rfl
                 refine one_ (i := 9) (N := some 61) #[true,true,true,true,true,true,true,true,true,true,false] rfl rfl (one_of HT_.out (by kernel_rfl)) (by decide) (fun K hK => ?_);refine Kd.R_append_rows_step (Kd.int .i64) (w0 := w) w.heap.size (by rfl) (.tmp 56) (.tmp 60) 77 3 (.int .i64 0) 8 rfl Try.underlying77 info3 rfl (by decide) (by omega) v122 y121 y124 _ _ _ (fun k_ => some k_ ≠ (.slice Ao34 x6_1.length co34 : Value).ownBlock) (fun _ => False) rfl rfl ?aO ?aR (fun _ _ h => h) (fun _ h => h.elim) ?aF ?aB ?aS ?aL ?_;(case aR => repeat (first | exact (by repeat (first | (with_reducible exact HR127.out) | (with_reducible refine Kd.C_alloc ?_ _) | (with_reducible refine Kd.C_drewN ?_ _) | (with_reducible refine Kd.C_drew ?_) | exact HR127.out)) | (with_reducible refine Kd.C_alloc ?_ _) | (with_reducible refine Kd.C_drewN ?_ _) | (with_reducible refine Kd.C_drew ?_)));(case aB => exact (by repeat (first | (with_reducible first | exact HB.out | apply below_alloc | apply pw_below_drewN | apply below_drew1) | exact HB.out)));(case aF => exact (fun k_ hk => Kd.fresh' (Kd.R_lt (by (with_reducible repeat (first | apply Kd.R_alloc | apply Kd.R_drewN | apply Kd.R_drew));exact HO_6.out)) k_ hk));(case aO => exact (by (with_reducible repeat (first | apply Kd.R_alloc | apply Kd.R_drewN | apply Kd.R_drew));exact HO123.out));(case aS => exact (below_size (by repeat (first | (with_reducible first | exact HB.out | apply below_alloc | apply pw_below_drewN | apply below_drew1) | exact HB.out))));(case aL => have := LMc33.out;omega);intro v129 w41 ho hb hg hat;rw [← Ny128.out] at ho;have n0_ := Aside0.mk (Kd.R_after (ok := (fun _ => True)) (by (with_reducible repeat (first | apply Kd.R_alloc | apply Kd.R_drewN | apply Kd.R_drew));exact HO_6.out) hg hat);have n1_ := Aside0.mk (hb);have n2_ := Aside0.mk ((show Kd.C (Kd.int .i64) w41 Ao34 y117.length y117 from by rw [Ny117.out];exact Kd.C_take (m := (x8_2 : Int).toNat) ((Kd.R_reads' (Kd.R_after (ok := (fun _ => True)) (by (with_reducible repeat (first | apply Kd.R_alloc | apply Kd.R_drewN | apply Kd.R_drew));exact HO_6.out) hg hat)).2.2) KL36.out));have n3_ := Aside0.mk ((show Kd.C (Kd.int .i64) w41 A37 y124.length y124 from by rw [Ny124.out,KA37.out];exact Kd.C_drop (m := ((ji30) : Int).toNat) (c := co34) ((Kd.R_reads' (Kd.R_after (ok := (fun _ => True)) (by (with_reducible repeat (first | apply Kd.R_alloc | apply Kd.R_drewN | apply Kd.R_drew));exact HO_6.out) hg hat)).2.2) KL37.out ((Kd.R_reads' (Kd.R_after (ok := (fun _ => True)) (by (with_reducible repeat (first | apply Kd.R_alloc | apply Kd.R_drewN | apply Kd.R_drew));exact HO_6.out) hg hat)).2.1)));have n4_ := Aside0.mk (ho);clear HO_6;clear HB;clear HR120;clear HR127;clear HO123;have HO_6 := n0_;have HB := n1_;have HR120 := n2_;have HR127 := n3_;have HO130 := n4_;clear n0_ n1_ n2_ n3_ n4_;clear ho hb hg hat;refine hK.out _ _ trivial (fun hHeld => ?_);clear hK K;refine norm_ (a' := ?_) ?_ ?_;rotate_left
                 ·show Act.put _ (some 61) _ = _
                  simp only [Act.put,List.setIfInBounds_toArray,List.set_cons_zero,List.set_cons_succ,i64_w,i32_w];rfl
                 refine pure_ (i := 10) (N := some 6) (v := ?_) (a' := ?_) #[true,true,true,true,true,true,true,true,true,true,true] rfl rfl (any_of HT_.out (by kernel_rfl)) (fun _ _ _ h => h) (Or.inl ⟨by rfl,?_⟩) ?_ ?_;rotate_left
                 ·intro w';go_simp;with_reducible rfl
                 rotate_left
                 ·simp only [Act.put,List.setIfInBounds_toArray,List.set_cons_zero,List.set_cons_succ,i64_w,i32_w];rfl
                 refine done_ (done_of HT_.out (by kernel_rfl)) ?_;(try go_wp2)
                 go_roundg k2
                 case measure => have := HK1.out;have := HK2.out;omega
                 case rel => exact ⟨(y128),(wrap64 (x7_1 + 1)),(by first | rfl | (simp only [IntKind.wrap_i64,wrap64];done) | (simp;done) | (simp [*];done)),H',⟨by have := HK1.out;have := HK2.out;omega⟩,⟨by (with_reducible repeat (first | apply Kd.R_alloc | apply Kd.R_drewN | apply Kd.R_drew));exact Kd.R_mono HO130.out (fun _ hk => trivial)⟩,⟨by repeat (first | (with_reducible first | exact HB.out | apply below_alloc | apply pw_below_drewN | apply below_drew1) | exact HB.out)⟩⟩
                ·rw [if_neg c33] at H;exact absurd H (by simp)
               ·rw [if_neg c32] at H;exact absurd H (by simp)
              ·rw [if_neg c31] at H;exact absurd H (by simp)
             ·rw [if_neg c29] at H;exact absurd H (by simp)
            ·rw [if_neg c28] at H;exact absurd H (by simp)
           ·rw [if_neg c27] at H;exact absurd H (by simp)
        ·rw [if_neg c18] at H;exact absurd H (by simp)
       ·rw [if_neg c17] at H;exact absurd H (by simp)
   ·rw [if_neg c5] at H;have c5b0 : decide (x7_1 < a1) = false := decide_eq_false c5;clear c5;simp only [Option.some.injEq,Prod.mk.injEq] at H;obtain ⟨rfl,rfl⟩ := H
    go_wp2
    go_ret2
    exact ⟨_,by first | rfl | (simp [errW_none,errW_some,IntKind.wrap_i64,wrap64];done) | (simp [errW_none,errW_some] <;> rfl) | (simp [*,errW_none,errW_some] <;> rfl),by (with_reducible repeat (first | apply Kd.R_alloc | apply Kd.R_drewN | apply Kd.R_drew));exact HO_6.out,by repeat (first | (with_reducible first | exact HB.out | apply below_alloc | apply pw_below_drewN | apply below_drew1) | exact HB.out)⟩
end Go.Proofs.Ytidkniacmcbgiaa.G
end

section
namespace Go.Proofs.Ytidkniacmcbgiaa.G
open Go.RowKit Go.Proofs.YtidkniacmcbgiaaW.PrintWords Go.Proofs.YtidkniacmcbgiaaW.PrintLast Go.Proofs.YtidkniacmcbgiaaW.PrintMore
attribute [local go_sem] max2_int min2_int max_two min_two max_three min_three max_four min_four
set_option linter.unusedVariables false
set_option linter.unusedSimpArgs false
def spec_l07Ok.l0 : Nat → List (S73) → Int → Int → Option (Bool)
 | 0,_,_,_ => none
 | k + 1,x0,x3,x4 => if x4 < (x0.length : Int) then (if 0 ≤ x4 then ((spec_l00In.f ((rd_T73 x0 x4).f0) x3 100000).bind fun t106 => (if t106 = true then ((spec_l00In.f ((rd_T73 x0 x4).f1) 0 9999).bind fun t108 => (if t108 = true then (spec_l07Ok.l0 k x0 ((rd_T73 x0 x4).f0) (wrap64 (x4 + 1))) else (some false))) else (some false))) else (none)) else ((spec_l07Up.f k x0 (x0.length : Int)).bind fun bt101 => (some bt101.2))
def spec_l07Ok.f (k : Nat) (l0 : List (S73)) : Option (Bool) := if (l0.length : Int) > 60 then (some false) else (spec_l07Ok.l0 k l0 0 0)
set_option maxHeartbeats 8000000 in
set_option maxRecDepth 100000 in
theorem spec_l07Ok.calls (k : Nat) (A0 : Option Addr) (c0 : Nat) (l0 : List (S73)) (r : Bool) (w : World) (hr0 : Kd.C k73 w A0 l0.length l0) (hc0 : l0.length ≤ c0) (h : spec_l07Ok.f k l0 = some r) :
  Calls Try.prog 74 #[.slice A0 l0.length c0] w fun e w' => e = .returned (.bool r) ∧ Below w.heap.size w w' := by
 have HR0 := Aside0.mk hr0;have HC0 := Aside0.mk hc0;clear hr0 hc0;have HB := Aside0.mk (Below.refl w.heap.size w);have H : (if (l0.length : Int) > 60 then (some false) else (spec_l07Ok.l0 k l0 0 0)) = some r := h;clear h
 by_cases c2 : (l0.length : Int) > 60
 ·rw [if_pos c2] at H;have c2b0 : decide (60 < (l0.length : Int)) = true := decide_eq_true c2;have c2b1 : decide (60 < l0.length) = true := decide_eq_true (by omega);clear c2;obtain rfl := Option.some.inj H
  go_enter Try.func74,Try.ntmps74
  go_wp2
  go_ret
  exact ⟨by first | rfl | (simp [errW_none,errW_some,IntKind.wrap_i64,wrap64];done) | (simp [errW_none,errW_some] <;> rfl) | (simp [*,errW_none,errW_some] <;> rfl),by repeat (first | (with_reducible first | exact HB.out | apply below_alloc | apply pw_below_drewN | apply below_drew1) | exact HB.out)⟩
 ·rw [if_neg c2] at H;have c2b0 : decide (60 < (l0.length : Int)) = false := decide_eq_false c2;have c2b1 : decide (60 < l0.length) = false := decide_eq_false (by omega);clear c2;have H' := Aside0.mk H;clear H
  go_enter Try.func74,Try.ntmps74
  go_wp2
  go_loopg [3,4] k (fun kq v3 v4 w' => ∃ (x3_1 : Int) (x4_1 : Int),v3 = .int .i64 x3_1 ∧ v4 = .int .i64 x4_1 ∧ Aside0 (spec_l07Ok.l0 kq l0 x3_1 x4_1 = some r) ∧ Aside0 (kq ≤ k) ∧ Aside0 (Below w.heap.size w w'))
  case atStart => exact ⟨(0),(0),(by first | rfl | (simp only [IntKind.wrap_i64,wrap64];done) | (simp;done) | (simp [*];done)),(by first | rfl | (simp only [IntKind.wrap_i64,wrap64];done) | (simp;done) | (simp [*];done)),H',⟨Nat.le_refl _⟩,⟨by repeat (first | (with_reducible first | exact HB.out | apply below_alloc | apply pw_below_drewN | apply below_drew1) | exact HB.out)⟩⟩
  case round =>
   clear H';(try clear c2);(try clear c2b0);(try clear c2b1);(try clear p2);obtain ⟨x3_1,x4_1,rfl,rfl,HA,HK1,HB⟩ := hrel
   cases gk with
   | zero => exact absurd HA.out (by simp [spec_l07Ok.l0])
   | succ k1 =>
    have H := HA.out;clear HA;simp only [spec_l07Ok.l0] at H
    by_cases c3 : x4_1 < (l0.length : Int)
    ·rw [if_pos c3] at H;have c3b0 : decide (x4_1 < (l0.length : Int)) = true := decide_eq_true c3;clear c3
     by_cases c4 : 0 ≤ x4_1
     ·rw [if_pos c4] at H;have c4b0 : decide (0 ≤ x4_1) = true := decide_eq_true c4;clear c4;replace H := Option.bind_eq_some_iff.mp H;obtain ⟨t106,A50,H⟩ := H;replace H : (if t106 = true then ((spec_l00In.f ((rd_T73 l0 x4_1).f1) 0 9999).bind fun t108 => (if t108 = true then (spec_l07Ok.l0 k1 l0 ((rd_T73 l0 x4_1).f0) (wrap64 (x4_1 + 1))) else (some false))) else (some false)) = some r := H;have A5 := Aside0.mk A50;clear A50
      by_cases c6 : t106 = true
      ·subst c6
       have H1 : ((spec_l00In.f ((rd_T73 l0 x4_1).f1) 0 9999).bind fun t108 => (if t108 = true then (spec_l07Ok.l0 k1 l0 ((rd_T73 l0 x4_1).f0) (wrap64 (x4_1 + 1))) else (some false))) = some r := by rw [if_pos rfl] at H;exact H
       clear H;have H := H1;clear H1;replace H := Option.bind_eq_some_iff.mp H;obtain ⟨t108,A70,H⟩ := H;replace H : (if t108 = true then (spec_l07Ok.l0 k1 l0 ((rd_T73 l0 x4_1).f0) (wrap64 (x4_1 + 1))) else (some false)) = some r := H;have A7 := Aside0.mk A70;clear A70
       by_cases c8 : t108 = true
       ·subst c8
        have H1 : (spec_l07Ok.l0 k1 l0 ((rd_T73 l0 x4_1).f0) (wrap64 (x4_1 + 1))) = some r := by rw [if_pos rfl] at H;exact H
        clear H;have H := H1;clear H1;have H' := Aside0.mk H;clear H;have p105 : 0 ≤ (x4_1 : Int) := of_decide_eq_true (by first | (with_reducible assumption) | assumption);have q105 : x4_1 < (l0.length : Int) := of_decide_eq_true (by first | (with_reducible assumption) | assumption);obtain ⟨ad105,e105,hx105_0,hx105_1,hx105_2⟩ := at_T73 HR0.out x4_1 p105 q105;cases e105;replace hx105_0 := (HB.out.cell (World.block_lt_of_cell? w _ hx105_0)).trans hx105_0;replace hx105_1 := (HB.out.cell (World.block_lt_of_cell? w _ hx105_1)).trans hx105_1;replace hx105_2 := (HB.out.cell (World.block_lt_of_cell? w _ hx105_2)).trans hx105_2;replace p105 := eq_true p105;replace q105 := eq_true q105
        go_wp2_with (first | ((with_reducible refine gate_callee (f := 77) rfl ?_);refine goesL_ (some 22) rfl rfl Try.func77 (by kernel_rfl) rfl #[.int .i64 ((rd_T73 l0 x4_1).f0),.int .i64 x3_1,.int .i64 100000] rfl (by (try simp only [List.map_toArray,List.map_cons,List.map_nil]);first | done | rfl | (simp only [List.length_drop,List.length_take];rfl)) ?_;(with_reducible refine (spec_l00In.calls ((rd_T73 l0 x4_1).f0) x3_1 100000 true _ A5.out).mono ?_);rintro e w' ⟨rfl,⟨nd,rfl⟩⟩;refine ⟨_,rfl,?_⟩;have p107 : 0 ≤ (x4_1 : Int) := of_decide_eq_true (by first | (with_reducible assumption) | assumption);have q107 : x4_1 < (l0.length : Int) := of_decide_eq_true (by first | (with_reducible assumption) | assumption);obtain ⟨ad107,e107,hx107_0,hx107_1,hx107_2⟩ := at_T73 HR0.out x4_1 p107 q107;obtain rfl : ad105 = ad107 := (by injection e107);replace hx107_0 := (HB.out.cell (World.block_lt_of_cell? w _ hx107_0)).trans hx107_0;replace hx107_1 := (HB.out.cell (World.block_lt_of_cell? w _ hx107_1)).trans hx107_1;replace hx107_2 := (HB.out.cell (World.block_lt_of_cell? w _ hx107_2)).trans hx107_2;replace p107 := eq_true p107;replace q107 := eq_true q107) | (go_at_call 77;(with_reducible refine (spec_l00In.calls ((rd_T73 l0 x4_1).f1) 0 9999 true _ A7.out).mono ?_);rintro e w' ⟨rfl,⟨nd,rfl⟩⟩;have p109 : 0 ≤ (x4_1 : Int) := of_decide_eq_true (by first | (with_reducible assumption) | assumption);have q109 : x4_1 < (l0.length : Int) := of_decide_eq_true (by first | (with_reducible assumption) | assumption);obtain ⟨ad109,e109,hx109_0,hx109_1,hx109_2⟩ := at_T73 HR0.out x4_1 p109 q109;obtain rfl : ad105 = ad109 := (by injection e109);replace hx109_0 := (HB.out.cell (World.block_lt_of_cell? w _ hx109_0)).trans hx109_0;replace hx109_1 := (HB.out.cell (World.block_lt_of_cell? w _ hx109_1)).trans hx109_1;replace hx109_2 := (HB.out.cell (World.block_lt_of_cell? w _ hx109_2)).trans hx109_2;replace p109 := eq_true p109;replace q109 := eq_true q109))
        go_roundg k1
        case measure => have := HK1.out;omega
        case rel => exact ⟨((rd_T73 l0 x4_1).f0),(wrap64 (x4_1 + 1)),(by first | rfl | (simp only [IntKind.wrap_i64,wrap64];done) | (simp;done) | (simp [*];done)),(by first | rfl | (simp only [IntKind.wrap_i64,wrap64];done) | (simp;done) | (simp [*];done)),H',⟨by have := HK1.out;omega⟩,⟨by repeat (first | (with_reducible first | exact HB.out | apply below_alloc | apply pw_below_drewN | apply below_drew1) | exact HB.out)⟩⟩
       ·replace c8 := Bool.eq_false_iff.mpr c8;subst c8
        have H1 : (some false) = some r := by rw [if_neg (show ¬ (false = true) by decide)] at H;exact H
        clear H;have H := H1;clear H1;obtain rfl := Option.some.inj H;have p105 : 0 ≤ (x4_1 : Int) := of_decide_eq_true (by first | (with_reducible assumption) | assumption);have q105 : x4_1 < (l0.length : Int) := of_decide_eq_true (by first | (with_reducible assumption) | assumption);obtain ⟨ad105,e105,hx105_0,hx105_1,hx105_2⟩ := at_T73 HR0.out x4_1 p105 q105;cases e105;replace hx105_0 := (HB.out.cell (World.block_lt_of_cell? w _ hx105_0)).trans hx105_0;replace hx105_1 := (HB.out.cell (World.block_lt_of_cell? w _ hx105_1)).trans hx105_1;replace hx105_2 := (HB.out.cell (World.block_lt_of_cell? w _ hx105_2)).trans hx105_2;replace p105 := eq_true p105;replace q105 := eq_true q105
        go_wp2_with (first | ((with_reducible refine gate_callee (f := 77) rfl ?_);refine goesL_ (some 22) rfl rfl Try.func77 (by kernel_rfl) rfl #[.int .i64 ((rd_T73 l0 x4_1).f0),.int .i64 x3_1,.int .i64 100000] rfl (by (try simp only [List.map_toArray,List.map_cons,List.map_nil]);first | done | rfl | (simp only [List.length_drop,List.length_take];rfl)) ?_;(with_reducible refine (spec_l00In.calls ((rd_T73 l0 x4_1).f0) x3_1 100000 true _ A5.out).mono ?_);rintro e w' ⟨rfl,⟨nd,rfl⟩⟩;refine ⟨_,rfl,?_⟩;have p107 : 0 ≤ (x4_1 : Int) := of_decide_eq_true (by first | (with_reducible assumption) | assumption);have q107 : x4_1 < (l0.length : Int) := of_decide_eq_true (by first | (with_reducible assumption) | assumption);obtain ⟨ad107,e107,hx107_0,hx107_1,hx107_2⟩ := at_T73 HR0.out x4_1 p107 q107;obtain rfl : ad105 = ad107 := (by injection e107);replace hx107_0 := (HB.out.cell (World.block_lt_of_cell? w _ hx107_0)).trans hx107_0;replace hx107_1 := (HB.out.cell (World.block_lt_of_cell? w _ hx107_1)).trans hx107_1;replace hx107_2 := (HB.out.cell (World.block_lt_of_cell? w _ hx107_2)).trans hx107_2;replace p107 := eq_true p107;replace q107 := eq_true q107) | (go_at_call 77;(with_reducible refine (spec_l00In.calls ((rd_T73 l0 x4_1).f1) 0 9999 false _ A7.out).mono ?_);rintro e w' ⟨rfl,⟨nd,rfl⟩⟩))
        go_ret
        exact ⟨by first | rfl | (simp [errW_none,errW_some,IntKind.wrap_i64,wrap64];done) | (simp [errW_none,errW_some] <;> rfl) | (simp [*,errW_none,errW_some] <;> rfl),by repeat (first | (with_reducible first | exact HB.out | apply below_alloc | apply pw_below_drewN | apply below_drew1) | exact HB.out)⟩
      ·replace c6 := Bool.eq_false_iff.mpr c6;subst c6
       have H1 : (some false) = some r := by rw [if_neg (show ¬ (false = true) by decide)] at H;exact H
       clear H;have H := H1;clear H1;obtain rfl := Option.some.inj H;have p105 : 0 ≤ (x4_1 : Int) := of_decide_eq_true (by first | (with_reducible assumption) | assumption);have q105 : x4_1 < (l0.length : Int) := of_decide_eq_true (by first | (with_reducible assumption) | assumption);obtain ⟨ad105,e105,hx105_0,hx105_1,hx105_2⟩ := at_T73 HR0.out x4_1 p105 q105;cases e105;replace hx105_0 := (HB.out.cell (World.block_lt_of_cell? w _ hx105_0)).trans hx105_0;replace hx105_1 := (HB.out.cell (World.block_lt_of_cell? w _ hx105_1)).trans hx105_1;replace hx105_2 := (HB.out.cell (World.block_lt_of_cell? w _ hx105_2)).trans hx105_2;replace p105 := eq_true p105;replace q105 := eq_true q105
       go_wp2_with (first | ((with_reducible refine gate_callee (f := 77) rfl ?_);refine goesL_ (some 22) rfl rfl Try.func77 (by kernel_rfl) rfl #[.int .i64 ((rd_T73 l0 x4_1).f0),.int .i64 x3_1,.int .i64 100000] rfl (by (try simp only [List.map_toArray,List.map_cons,List.map_nil]);first | done | rfl | (simp only [List.length_drop,List.length_take];rfl)) ?_;(with_reducible refine (spec_l00In.calls ((rd_T73 l0 x4_1).f0) x3_1 100000 false _ A5.out).mono ?_);rintro e w' ⟨rfl,⟨nd,rfl⟩⟩;refine ⟨_,rfl,?_⟩))
       go_ret
       exact ⟨by first | rfl | (simp [errW_none,errW_some,IntKind.wrap_i64,wrap64];done) | (simp [errW_none,errW_some] <;> rfl) | (simp [*,errW_none,errW_some] <;> rfl),by repeat (first | (with_reducible first | exact HB.out | apply below_alloc | apply pw_below_drewN | apply below_drew1) | exact HB.out)⟩
     ·rw [if_neg c4] at H;exact absurd H (by simp)
    ·rw [if_neg c3] at H;have c3b0 : decide (x4_1 < (l0.length : Int)) = false := decide_eq_false c3;clear c3;replace H := Option.bind_eq_some_iff.mp H;obtain ⟨⟨t101,t102⟩,A90,H⟩ := H;replace H : (some t102) = some r := H;have A9 := Aside0.mk A90;clear A90;obtain rfl := Option.some.inj H
     go_wp2_with (first | ((with_reducible refine gate_callee (f := 76) rfl ?_);refine goesL_ (some 42) rfl rfl Try.func76 (by kernel_rfl) rfl #[.slice A0 l0.length c0,.int .i64 (l0.length : Int)] rfl (by (try simp only [List.map_toArray,List.map_cons,List.map_nil]);first | done | rfl | (simp only [List.length_drop,List.length_take];rfl)) ?_;(with_reducible refine (spec_l07Up.calls k1 _ _ l0 (l0.length : Int) t101 t102 _ ?side1 ?side2 A9.out).mono ?_);(case side1 => repeat (first | exact (Kd.C_below HR0.out HB.out) | (with_reducible refine Kd.C_alloc ?_ _) | (with_reducible refine Kd.C_drewN ?_ _) | (with_reducible refine Kd.C_drew ?_)));(case side2 => exact HC0.out);rintro e w10 ⟨v103,rfl,ho0,hb⟩;refine ⟨_,rfl,?_⟩;have n0_ := Aside0.mk (Kd.R_lower ho0 (below_size (by repeat (first | (with_reducible first | exact HB.out | apply below_alloc | apply pw_below_drewN | apply below_drew1) | exact HB.out))));have n1_ := Aside0.mk (below_step (by repeat (first | (with_reducible first | exact HB.out | apply below_alloc | apply pw_below_drewN | apply below_drew1) | exact HB.out)) hb);clear HB;have HO104 := n0_;have HB := n1_;clear n0_ n1_;(try clear hb);(try clear hb2);(try clear hk);(try clear hi);(try clear ho0)))
     go_ret
     exact ⟨by first | rfl | (simp [errW_none,errW_some,IntKind.wrap_i64,wrap64];done) | (simp [errW_none,errW_some] <;> rfl) | (simp [*,errW_none,errW_some] <;> rfl),by repeat (first | (with_reducible first | exact HB.out | apply below_alloc | apply pw_below_drewN | apply below_drew1) | exact HB.out)⟩
end Go.Proofs.Ytidkniacmcbgiaa.G
end

section
namespace Go.Proofs.Ytidkniacmcbgiaa.G
open Go.RowKit Go.Proofs.YtidkniacmcbgiaaW.PrintWords Go.Proofs.YtidkniacmcbgiaaW.PrintLast Go.Proofs.YtidkniacmcbgiaaW.PrintMore
attribute [local go_sem] max2_int min2_int max_two min_two max_three min_three max_four min_four
set_option linter.unusedVariables false
set_option linter.unusedSimpArgs false
def spec_l07Logs.l0 : Nat → List (List (S73)) → Int → Option (Int)
 | 0,_,_ => none
 | k + 1,x0,x3 => if x3 < (x0.length : Int) then (if 0 ≤ x3 then ((spec_l07Ok.f k (rd_L5 x0 x3)).bind fun t102 => (if t102 = true then (spec_l07Logs.l0 k x0 (wrap64 (x3 + 1))) else (some 1))) else (none)) else ((spec_l00In.f (x0.length : Int) 1 8).bind fun t103 => (if t103 = true then (some 0) else (some 2)))
def spec_l07Logs.f (k : Nat) (l0 : List (List (S73))) : Option (Int) := spec_l07Logs.l0 k l0 0
set_option maxHeartbeats 8000000 in
set_option maxRecDepth 100000 in
theorem spec_l07Logs.calls (k : Nat) (A0 : Option Addr) (c0 : Nat) (l0 : List (List (S73))) (r : Int) (w : World) (hr0 : Kd.C (Kd.slice 73 k73) w A0 l0.length l0) (hc0 : l0.length ≤ c0) (h : spec_l07Logs.f k l0 = some r) :
  Calls Try.prog 100 #[.slice A0 l0.length c0] w fun e w' => e = .returned (.int .i64 r) ∧ Below w.heap.size w w' := by
 have HR0 := Aside0.mk hr0;have HC0 := Aside0.mk hc0;clear hr0 hc0;have HB := Aside0.mk (Below.refl w.heap.size w);have H : (spec_l07Logs.l0 k l0 0) = some r := h;clear h;have H' := Aside0.mk H;clear H
 go_enter Try.func100,Try.ntmps100
 go_wp2
 go_loopg [3] k (fun kq v3 w' => ∃ (x3_1 : Int),v3 = .int .i64 x3_1 ∧ Aside0 (spec_l07Logs.l0 kq l0 x3_1 = some r) ∧ Aside0 (kq ≤ k) ∧ Aside0 (Below w.heap.size w w'))
 case atStart => exact ⟨(0),(by first | rfl | (simp only [IntKind.wrap_i64,wrap64];done) | (simp;done) | (simp [*];done)),H',⟨Nat.le_refl _⟩,⟨by repeat (first | (with_reducible first | exact HB.out | apply below_alloc | apply pw_below_drewN | apply below_drew1) | exact HB.out)⟩⟩
 case round =>
  clear H';(try clear c1);obtain ⟨x3_1,rfl,HA,HK1,HB⟩ := hrel
  cases gk with
  | zero => exact absurd HA.out (by simp [spec_l07Logs.l0])
  | succ k1 =>
   have H := HA.out;clear HA;simp only [spec_l07Logs.l0] at H
   by_cases c2 : x3_1 < (l0.length : Int)
   ·rw [if_pos c2] at H;have c2b0 : decide (x3_1 < (l0.length : Int)) = true := decide_eq_true c2;clear c2
    by_cases c3 : 0 ≤ x3_1
    ·rw [if_pos c3] at H;have c3b0 : decide (0 ≤ x3_1) = true := decide_eq_true c3;clear c3;replace H := Option.bind_eq_some_iff.mp H;obtain ⟨t102,A40,H⟩ := H;replace H : (if t102 = true then (spec_l07Logs.l0 k1 l0 (wrap64 (x3_1 + 1))) else (some 1)) = some r := H;have A4 := Aside0.mk A40;clear A40
     by_cases c5 : t102 = true
     ·subst c5
      have H1 : (spec_l07Logs.l0 k1 l0 (wrap64 (x3_1 + 1))) = some r := by rw [if_pos rfl] at H;exact H
      clear H;have H := H1;clear H1;have H' := Aside0.mk H;clear H;have p101 : 0 ≤ (x3_1 : Int) := of_decide_eq_true (by first | (with_reducible assumption) | assumption);have q101 : x3_1 < (l0.length : Int) := of_decide_eq_true (by first | (with_reducible assumption) | assumption);obtain ⟨ad101,A101_0,c101_0,e101,hx101_0,hl101_0,hi101_0⟩ := at_L5 HR0.out x3_1 p101 q101;cases e101;replace hx101_0 := (HB.out.cell (World.block_lt_of_cell? w _ hx101_0)).trans hx101_0;have HR101_0 := Aside0.mk hi101_0;have HC101_0 := Aside0.mk hl101_0;clear hi101_0 hl101_0;replace p101 := eq_true p101;replace q101 := eq_true q101
      go_wp2_with (first | ((with_reducible refine gate_callee (f := 74) rfl ?_);refine goesL_ (some 14) rfl rfl Try.func74 (by kernel_rfl) rfl #[.slice A101_0 (rd_L5 l0 x3_1).length c101_0] rfl (by (try simp only [List.map_toArray,List.map_cons,List.map_nil]);first | done | rfl | (simp only [List.length_drop,List.length_take];rfl)) ?_;(with_reducible refine (spec_l07Ok.calls k1 _ _ (rd_L5 l0 x3_1) true _ ?side1 ?side2 A4.out).mono ?_);(case side1 => repeat (first | exact (Kd.C_below HR101_0.out HB.out) | (with_reducible refine Kd.C_alloc ?_ _) | (with_reducible refine Kd.C_drewN ?_ _) | (with_reducible refine Kd.C_drew ?_)));(case side2 => exact HC101_0.out);rintro e w6 ⟨rfl,hb⟩;refine ⟨_,rfl,?_⟩;have n0_ := Aside0.mk (below_step (by repeat (first | (with_reducible first | exact HB.out | apply below_alloc | apply pw_below_drewN | apply below_drew1) | exact HB.out)) hb);clear HB;have HB := n0_;clear n0_;(try clear hb);(try clear hb2);(try clear hk);(try clear hi)))
      go_roundg k1
      case measure => have := HK1.out;omega
      case rel => exact ⟨(wrap64 (x3_1 + 1)),(by first | rfl | (simp only [IntKind.wrap_i64,wrap64];done) | (simp;done) | (simp [*];done)),H',⟨by have := HK1.out;omega⟩,⟨by repeat (first | (with_reducible first | exact HB.out | apply below_alloc | apply pw_below_drewN | apply below_drew1) | exact HB.out)⟩⟩
     ·replace c5 := Bool.eq_false_iff.mpr c5;subst c5
      have H1 : (some 1) = some r := by rw [if_neg (show ¬ (false = true) by decide)] at H;exact H
      clear H;have H := H1;clear H1;obtain rfl := Option.some.inj H;have p101 : 0 ≤ (x3_1 : Int) := of_decide_eq_true (by first | (with_reducible assumption) | assumption);have q101 : x3_1 < (l0.length : Int) := of_decide_eq_true (by first | (with_reducible assumption) | assumption);obtain ⟨ad101,A101_0,c101_0,e101,hx101_0,hl101_0,hi101_0⟩ := at_L5 HR0.out x3_1 p101 q101;cases e101;replace hx101_0 := (HB.out.cell (World.block_lt_of_cell? w _ hx101_0)).trans hx101_0;have HR101_0 := Aside0.mk hi101_0;have HC101_0 := Aside0.mk hl101_0;clear hi101_0 hl101_0;replace p101 := eq_true p101;replace q101 := eq_true q101
      go_wp2_with (first | ((with_reducible refine gate_callee (f := 74) rfl ?_);refine goesL_ (some 14) rfl rfl Try.func74 (by kernel_rfl) rfl #[.slice A101_0 (rd_L5 l0 x3_1).length c101_0] rfl (by (try simp only [List.map_toArray,List.map_cons,List.map_nil]);first | done | rfl | (simp only [List.length_drop,List.length_take];rfl)) ?_;(with_reducible refine (spec_l07Ok.calls k1 _ _ (rd_L5 l0 x3_1) false _ ?side1 ?side2 A4.out).mono ?_);(case side1 => repeat (first | exact (Kd.C_below HR101_0.out HB.out) | (with_reducible refine Kd.C_alloc ?_ _) | (with_reducible refine Kd.C_drewN ?_ _) | (with_reducible refine Kd.C_drew ?_)));(case side2 => exact HC101_0.out);rintro e w7 ⟨rfl,hb⟩;refine ⟨_,rfl,?_⟩;have n0_ := Aside0.mk (below_step (by repeat (first | (with_reducible first | exact HB.out | apply below_alloc | apply pw_below_drewN | apply below_drew1) | exact HB.out)) hb);clear HB;have HB := n0_;clear n0_;(try clear hb);(try clear hb2);(try clear hk);(try clear hi)))
      go_ret
      exact ⟨by first | rfl | (simp [errW_none,errW_some,IntKind.wrap_i64,wrap64];done) | (simp [errW_none,errW_some] <;> rfl) | (simp [*,errW_none,errW_some] <;> rfl),by repeat (first | (with_reducible first | exact HB.out | apply below_alloc | apply pw_below_drewN | apply below_drew1) | exact HB.out)⟩
    ·rw [if_neg c3] at H;exact absurd H (by simp)
   ·rw [if_neg c2] at H;have c2b0 : decide (x3_1 < (l0.length : Int)) = false := decide_eq_false c2;clear c2;replace H := Option.bind_eq_some_iff.mp H;obtain ⟨t103,A80,H⟩ := H;replace H : (if t103 = true then (some 0) else (some 2)) = some r := H;have A8 := Aside0.mk A80;clear A80
    by_cases c9 : t103 = true
    ·subst c9
     have H1 : (some 0) = some r := by rw [if_pos rfl] at H;exact H
     clear H;have H := H1;clear H1;obtain rfl := Option.some.inj H
     go_wp2_with (first | ((with_reducible refine gate_callee (f := 77) rfl ?_);refine goesL_ (some 18) rfl rfl Try.func77 (by kernel_rfl) rfl #[.int .i64 (l0.length : Int),.int .i64 1,.int .i64 8] rfl (by (try simp only [List.map_toArray,List.map_cons,List.map_nil]);first | done | rfl | (simp only [List.length_drop,List.length_take];rfl)) ?_;(with_reducible refine (spec_l00In.calls (l0.length : Int) 1 8 true _ A8.out).mono ?_);rintro e w' ⟨rfl,⟨nd,rfl⟩⟩;refine ⟨_,rfl,?_⟩))
     go_ret
     exact ⟨by first | rfl | (simp [errW_none,errW_some,IntKind.wrap_i64,wrap64];done) | (simp [errW_none,errW_some] <;> rfl) | (simp [*,errW_none,errW_some] <;> rfl),by repeat (first | (with_reducible first | exact HB.out | apply below_alloc | apply pw_below_drewN | apply below_drew1) | exact HB.out)⟩
    ·replace c9 := Bool.eq_false_iff.mpr c9;subst c9
     have H1 : (some 2) = some r := by rw [if_neg (show ¬ (false = true) by decide)] at H;exact H
     clear H;have H := H1;clear H1;obtain rfl := Option.some.inj H
     go_wp2_with (first | ((with_reducible refine gate_callee (f := 77) rfl ?_);refine goesL_ (some 18) rfl rfl Try.func77 (by kernel_rfl) rfl #[.int .i64 (l0.length : Int),.int .i64 1,.int .i64 8] rfl (by (try simp only [List.map_toArray,List.map_cons,List.map_nil]);first | done | rfl | (simp only [List.length_drop,List.length_take];rfl)) ?_;(with_reducible refine (spec_l00In.calls (l0.length : Int) 1 8 false _ A8.out).mono ?_);rintro e w' ⟨rfl,⟨nd,rfl⟩⟩;refine ⟨_,rfl,?_⟩))
     go_ret
     exact ⟨by first | rfl | (simp [errW_none,errW_some,IntKind.wrap_i64,wrap64];done) | (simp [errW_none,errW_some] <;> rfl) | (simp [*,errW_none,errW_some] <;> rfl),by repeat (first | (with_reducible first | exact HB.out | apply below_alloc | apply pw_below_drewN | apply below_drew1) | exact HB.out)⟩
end Go.Proofs.Ytidkniacmcbgiaa.G
end

section
namespace Go.Proofs.Ytidkniacmcbgiaa.G
open Go.RowKit Go.Proofs.YtidkniacmcbgiaaW.PrintWords Go.Proofs.YtidkniacmcbgiaaW.PrintLast Go.Proofs.YtidkniacmcbgiaaW.PrintMore
attribute [local go_sem] max2_int min2_int max_two min_two max_three min_three max_four min_four
set_option linter.unusedVariables false
set_option linter.unusedSimpArgs false
mutual
def spec_BestLog.l0 : Nat → List (List (S73)) → Int → Int → Int → Option (Int × Int × Int)
 | 0,_,_,_,_ => none
 | k + 1,x0,x6,x7,x8 => if x8 < (x0.length : Int) then (spec_BestLog.l1 k x0 x6 x7 x8 0 0) else (some (x6,x7,0))
def spec_BestLog.l1 : Nat → List (List (S73)) → Int → Int → Int → Int → Int → Option (Int × Int × Int)
 | 0,_,_,_,_,_,_ => none
 | k + 1,x0,x6,x7,x8,x9,x10 => if x10 < (x0.length : Int) then (if x10 = x8 then (spec_BestLog.l1 k x0 x6 x7 x8 x9 (wrap64 (x10 + 1))) else (if 0 ≤ x8 then (if x8 < (x0.length : Int) then (if 0 ≤ x10 then ((spec_l07Costs.f k (rd_L5 x0 x8) (rd_L5 x0 x10)).bind fun t104 => (if 0 < (t104.length : Int) then (if 0 < ((rd_L6 t104 0).length : Int) then (spec_BestLog.l1 k x0 x6 x7 x8 (wrap64 (x9 + (rd (rd_L6 t104 0) 0))) (wrap64 (x10 + 1))) else (none)) else (none))) else (none)) else (none)) else (none))) else (if x7 < 0 then (spec_BestLog.l0 k x0 x8 x9 (wrap64 (x8 + 1))) else (if x9 < x7 then (spec_BestLog.l0 k x0 x8 x9 (wrap64 (x8 + 1))) else (spec_BestLog.l0 k x0 x6 x7 (wrap64 (x8 + 1)))))
end
def spec_BestLog.f (k : Nat) (l0 : List (List (S73))) : Option (Int × Int × Int) := (spec_l07Logs.f k l0).bind fun t101 => (if t101 = 0 then (spec_BestLog.l0 k l0 0 (-1) 0) else (some (0,0,t101)))
def spec_BestLog.T14 : Bool × List (List Nat × List Nat) := (true,[([],[]),([],[]),([0,1],[0,1]),([2],[2]),([],[]),([],[]),([4,5],[4,5]),([6],[6]),([3,7],[3,7]),([8,8,0,1,2,3,4,5,6,7,8],[8])])
def spec_BestLog.B14 : List Nat := [0,0,3,7,0,0,48,112,255,511]
theorem spec_BestLog.tab14 : rtab .any (opsOf Try.f60 14) = spec_BestLog.T14 := by kernel_rfl
theorem spec_BestLog.bits14 : waitsOk spec_BestLog.T14.2 spec_BestLog.B14 = true := by kernel_rfl
set_option maxHeartbeats 8000000 in
set_option maxRecDepth 100000 in
theorem spec_BestLog.calls (k : Nat) (A0 : Option Addr) (c0 : Nat) (l0 : List (List (S73))) (r1 : Int) (r2 : Int) (r3 : Int) (w : World) (hr0 : Kd.C (Kd.slice 73 k73) w A0 l0.length l0) (hc0 : l0.length ≤ c0) (h : spec_BestLog.f k l0 = some (r1,r2,r3)) :
  Calls Try.prog 60 #[.slice A0 l0.length c0] w fun e w' => e = .returned (.tuple #[.int .i64 r1,.int .i64 r2,.int .i64 r3]) ∧ Below w.heap.size w w' := by
 have HR0 := Aside0.mk hr0;have HC0 := Aside0.mk hc0;clear hr0 hc0;have HB := Aside0.mk (Below.refl w.heap.size w);have H : ((spec_l07Logs.f k l0).bind fun t101 => (if t101 = 0 then (spec_BestLog.l0 k l0 0 (-1) 0) else (some (0,0,t101)))) = some (r1,r2,r3) := h;clear h;replace H := Option.bind_eq_some_iff.mp H;obtain ⟨t101,A20,H⟩ := H;replace H : (if t101 = 0 then (spec_BestLog.l0 k l0 0 (-1) 0) else (some (0,0,t101))) = some (r1,r2,r3) := H;have A2 := Aside0.mk A20;clear A20
 by_cases c3 : t101 = 0
 ·rw [if_pos c3] at H;have c3b0 : (t101 == 0) = true := beq_iff_eq.mpr c3;have c3b1 : (t101 != 0) = false := bne_eq_false_iff_eq.mpr c3;clear c3;have H' := Aside0.mk H;clear H
  go_enter Try.func60,Try.ntmps60
  go_wp2_with (first | ((with_reducible refine gate_callee (f := 100) rfl ?_);refine goesL_ (some 13) rfl rfl Try.func100 (by kernel_rfl) rfl #[.slice A0 l0.length c0] rfl (by (try simp only [List.map_toArray,List.map_cons,List.map_nil]);first | done | rfl | (simp only [List.length_drop,List.length_take];rfl)) ?_;(with_reducible refine (spec_l07Logs.calls k _ _ l0 t101 _ ?side1 ?side2 A2.out).mono ?_);(case side1 => repeat (first | exact HR0.out | (with_reducible refine Kd.C_alloc ?_ _) | (with_reducible refine Kd.C_drewN ?_ _) | (with_reducible refine Kd.C_drew ?_)));(case side2 => exact HC0.out);rintro e w4 ⟨rfl,hb⟩;refine ⟨_,rfl,?_⟩;have n0_ := Aside0.mk (below_step (by repeat (first | (with_reducible first | exact HB.out | apply below_alloc | apply pw_below_drewN | apply below_drew1) | exact HB.out)) hb);clear HB;have HB := n0_;clear n0_;(try clear hb);(try clear hb2);(try clear hk);(try clear hi)))
  go_loopg [6,7,8] k (fun kq v6 v7 v8 w' => ∃ (x6_1 : Int) (x7_1 : Int) (x8_1 : Int),v6 = .int .i64 x6_1 ∧ v7 = .int .i64 x7_1 ∧ v8 = .int .i64 x8_1 ∧ Aside0 (spec_BestLog.l0 kq l0 x6_1 x7_1 x8_1 = some (r1,r2,r3)) ∧ Aside0 (kq ≤ k) ∧ Aside0 (Below w.heap.size w w'))
  case atStart => exact ⟨(0),((-1)),(0),(by first | rfl | (simp only [IntKind.wrap_i64,wrap64];done) | (simp;done) | (simp [*];done)),(by first | rfl | (simp only [IntKind.wrap_i64,wrap64];done) | (simp;done) | (simp [*];done)),(by first | rfl | (simp only [IntKind.wrap_i64,wrap64];done) | (simp;done) | (simp [*];done)),H',⟨Nat.le_refl _⟩,⟨by repeat (first | (with_reducible first | exact HB.out | apply below_alloc | apply pw_below_drewN | apply below_drew1) | exact HB.out)⟩⟩
  case round =>
   clear H';(try clear c1);(try clear p2);(try clear c3);(try clear c3b0);(try clear c3b1);obtain ⟨x6_1,x7_1,x8_1,rfl,rfl,rfl,HA,HK1,HB⟩ := hrel
   cases gk with
   | zero => exact absurd HA.out (by simp [spec_BestLog.l0])
   | succ k1 =>
    have H := HA.out;clear HA;simp only [spec_BestLog.l0] at H
    by_cases c5 : x8_1 < (l0.length : Int)
    ·rw [if_pos c5] at H;have c5b0 : decide (x8_1 < (l0.length : Int)) = true := decide_eq_true c5;clear c5;have H' := Aside0.mk H;clear H
     go_wp2
     go_loopg [9,10] k1 (fun kq v9 v10 w' => ∃ (x9_2 : Int) (x10_2 : Int),v9 = .int .i64 x9_2 ∧ v10 = .int .i64 x10_2 ∧ Aside0 (spec_BestLog.l1 kq l0 x6_1 x7_1 x8_1 x9_2 x10_2 = some (r1,r2,r3)) ∧ Aside0 (kq ≤ k1) ∧ Aside0 (Below w.heap.size w w'))
     case atStart => exact ⟨(0),(0),(by first | rfl | (simp only [IntKind.wrap_i64,wrap64];done) | (simp;done) | (simp [*];done)),(by first | rfl | (simp only [IntKind.wrap_i64,wrap64];done) | (simp;done) | (simp [*];done)),H',⟨Nat.le_refl _⟩,⟨by repeat (first | (with_reducible first | exact HB.out | apply below_alloc | apply pw_below_drewN | apply below_drew1) | exact HB.out)⟩⟩
     case round =>
      clear H';(try clear c1);(try clear p2);(try clear c3);(try clear c3b0);(try clear c3b1);(try clear c5);(try clear c5b0);(try clear p2);obtain ⟨x9_2,x10_2,rfl,rfl,HA,HK2,HB⟩ := hrel
      cases gk with
      | zero => exact absurd HA.out (by simp [spec_BestLog.l1])
      | succ k2 =>
       have H := HA.out;clear HA;simp only [spec_BestLog.l1] at H
       by_cases c6 : x10_2 < (l0.length : Int)
       ·rw [if_pos c6] at H;have c6b0 : decide (x10_2 < (l0.length : Int)) = true := decide_eq_true c6;clear c6
        by_cases c7 : x10_2 = x8_1
        ·rw [if_pos c7] at H;have c7b0 : (x10_2 == x8_1) = true := beq_iff_eq.mpr c7;have c7b1 : (x10_2 != x8_1) = false := bne_eq_false_iff_eq.mpr c7;clear c7;have H' := Aside0.mk H;clear H
         go_wp2
         go_roundg k2
         case measure => have := HK1.out;have := HK2.out;omega
         case rel => exact ⟨(x9_2),(wrap64 (x10_2 + 1)),(by first | rfl | (simp only [IntKind.wrap_i64,wrap64];done) | (simp;done) | (simp [*];done)),(by first | rfl | (simp only [IntKind.wrap_i64,wrap64];done) | (simp;done) | (simp [*];done)),H',⟨by have := HK1.out;have := HK2.out;omega⟩,⟨by repeat (first | (with_reducible first | exact HB.out | apply below_alloc | apply pw_below_drewN | apply below_drew1) | exact HB.out)⟩⟩
        ·rw [if_neg c7] at H;have c7b0 : (x10_2 == x8_1) = false := beq_eq_false_iff_ne.mpr c7;have c7b1 : (x10_2 != x8_1) = true := bne_iff_ne.mpr c7
         by_cases c8 : 0 ≤ x8_1
         ·rw [if_pos c8] at H;have c8b0 : decide (0 ≤ x8_1) = true := decide_eq_true c8;clear c8
          by_cases c9 : x8_1 < (l0.length : Int)
          ·rw [if_pos c9] at H;have c9b0 : decide (x8_1 < (l0.length : Int)) = true := decide_eq_true c9;clear c9
           by_cases c10 : 0 ≤ x10_2
           ·rw [if_pos c10] at H;have c10b0 : decide (0 ≤ x10_2) = true := decide_eq_true c10;clear c10;replace H := Option.bind_eq_some_iff.mp H;obtain ⟨t104,A110,H⟩ := H;replace H : (if 0 < (t104.length : Int) then (if 0 < ((rd_L6 t104 0).length : Int) then (spec_BestLog.l1 k2 l0 x6_1 x7_1 x8_1 (wrap64 (x9_2 + (rd (rd_L6 t104 0) 0))) (wrap64 (x10_2 + 1))) else (none)) else (none)) = some (r1,r2,r3) := H;have A11 := Aside0.mk A110;clear A110
            by_cases c12 : 0 < (t104.length : Int)
            ·rw [if_pos c12] at H;have c12b0 : decide (0 < (t104.length : Int)) = true := decide_eq_true c12;have c12b1 : decide (0 < t104.length) = true := decide_eq_true (by omega);clear c12
             by_cases c13 : 0 < ((rd_L6 t104 0).length : Int)
             ·rw [if_pos c13] at H;have c13b0 : decide (0 < ((rd_L6 t104 0).length : Int)) = true := decide_eq_true c13;have c13b1 : decide (0 < (rd_L6 t104 0).length) = true := decide_eq_true (by omega);clear c13;have H' := Aside0.mk H;clear H;(try go_wp2);have n0_ := Aside0.mk (below_drew1 HB.out);clear HB;have HB := n0_;clear n0_;have p102 : 0 ≤ (x8_1 : Int) := of_decide_eq_true (by first | (with_reducible assumption) | assumption);have q102 : x8_1 < (l0.length : Int) := of_decide_eq_true (by first | (with_reducible assumption) | assumption);obtain ⟨ad102,A102_0,c102_0,e102,hx102_0,hl102_0,hi102_0⟩ := at_L5 HR0.out x8_1 p102 q102;have hw102_0 := hx102_0;cases e102;replace hx102_0 := (HB.out.cell (World.block_lt_of_cell? w _ hx102_0)).trans hx102_0;have HR102_0 := Aside0.mk hi102_0;have HC102_0 := Aside0.mk hl102_0;clear hi102_0 hl102_0;replace p102 := eq_true p102;replace q102 := eq_true q102;have p103 : 0 ≤ (x10_2 : Int) := of_decide_eq_true (by first | (with_reducible assumption) | assumption);have q103 : x10_2 < (l0.length : Int) := of_decide_eq_true (by first | (with_reducible assumption) | assumption);obtain ⟨ad103,A103_0,c103_0,e103,hx103_0,hl103_0,hi103_0⟩ := at_L5 HR0.out x10_2 p103 q103;have hw103_0 := hx103_0;obtain rfl : ad102 = ad103 := (by injection e103);replace hx103_0 := (HB.out.cell (World.block_lt_of_cell? w _ hx103_0)).trans hx103_0;have HR103_0 := Aside0.mk hi103_0;have HC103_0 := Aside0.mk hl103_0;clear hi103_0 hl103_0;replace p103 := eq_true p103;replace q103 := eq_true q103;refine start_ (n := 10) (S := fun w' => w'.cell? (ad102.add (x8_1).toNat) = some (.slice A102_0 (rd_L5 l0 x8_1).length c102_0) ∧ w'.cell? (ad102.add (x10_2).toNat) = some (.slice A103_0 (rd_L5 l0 x10_2).length c103_0)) (ds := []) #[false,false,false,false,false,false,false,false,false,false] (by kernel_rfl) rfl rfl ⟨((HB.out.cell (World.block_lt_of_cell? w _ hw102_0)).trans hw102_0),((HB.out.cell (World.block_lt_of_cell? w _ hw103_0)).trans hw103_0)⟩ (fun hHeld => ?_);refine with_tabW spec_BestLog.tab14 spec_BestLog.bits14 (fun HT_ HW_ => ?_);generalize wr.drew = w14 at HB HR102_0 HR103_0 hx102_0 hx103_0 hHeld ⊢;refine pure_ (i := 0) (N := some 32) (v := ?_) (a' := ?_) #[true,false,false,false,false,false,false,false,false,false] rfl rfl (any_of HT_.out (by kernel_rfl)) (fun _ _ _ h => h) (Or.inl ⟨by rfl,?_⟩) ?_ ?_;rotate_left
              ·intro w';go_simp;with_reducible rfl
              rotate_left
              ·simp only [Act.put,List.setIfInBounds_toArray,List.set_cons_zero,List.set_cons_succ,i64_w,i32_w];rfl
              refine pure_ (i := 1) (N := some 33) (v := ?_) (a' := ?_) #[true,true,false,false,false,false,false,false,false,false] rfl rfl (any_of HT_.out (by kernel_rfl)) (fun _ _ _ h => h) (Or.inl ⟨by rfl,?_⟩) ?_ ?_;rotate_left
              ·intro w';go_simp;with_reducible rfl
              rotate_left
              ·simp only [Act.put,List.setIfInBounds_toArray,List.set_cons_zero,List.set_cons_succ,i64_w,i32_w];rfl
              refine pure_ (i := 2) (N := some 34) (v := ?_) (a' := ?_) #[true,true,true,false,false,false,false,false,false,false] rfl rfl (any_of HT_.out (by kernel_rfl)) (fun _ _ _ h => h) (Or.inl ⟨by rfl,?_⟩) ?_ ?_;rotate_left
              ·intro w';go_simp;with_reducible rfl
              rotate_left
              ·simp only [Act.put,List.setIfInBounds_toArray,List.set_cons_zero,List.set_cons_succ,i64_w,i32_w];rfl
              refine pure_ (i := 4) (N := some 36) (v := ?_) (a' := ?_) #[true,true,true,false,true,false,false,false,false,false] rfl rfl (any_of HT_.out (by kernel_rfl)) (fun _ _ _ h => h) (Or.inl ⟨by rfl,?_⟩) ?_ ?_;rotate_left
              ·intro w';go_simp;with_reducible rfl
              rotate_left
              ·simp only [Act.put,List.setIfInBounds_toArray,List.set_cons_zero,List.set_cons_succ,i64_w,i32_w];rfl
              refine pure_ (i := 5) (N := some 37) (v := ?_) (a' := ?_) #[true,true,true,false,true,true,false,false,false,false] rfl rfl (any_of HT_.out (by kernel_rfl)) (fun _ _ _ h => h) (Or.inl ⟨by rfl,?_⟩) ?_ ?_;rotate_left
              ·intro w';go_simp;with_reducible rfl
              rotate_left
              ·simp only [Act.put,List.setIfInBounds_toArray,List.set_cons_zero,List.set_cons_succ,i64_w,i32_w];rfl
              refine pure_ (i := 6) (N := some 38) (v := ?_) (a' := ?_) #[true,true,true,false,true,true,true,false,false,false] rfl rfl (any_of HT_.out (by kernel_rfl)) (fun _ _ _ h => h) (Or.inl ⟨by rfl,?_⟩) ?_ ?_;rotate_left
              ·intro w';go_simp;with_reducible rfl
              rotate_left
              ·simp only [Act.put,List.setIfInBounds_toArray,List.set_cons_zero,List.set_cons_succ,i64_w,i32_w];rfl
              refine take_ (i := 3) (N := some 35) (v := ?_) (a' := ?_) #[true,true,true,true,true,true,true,false,false,false] rfl rfl (take_ofW HT_.out HW_.out (by kernel_rfl)) (fun _ _ _ h => h) (Or.inl ⟨by rfl,?_⟩) hHeld ?_ ?_;rotate_left
              ·rintro w' ⟨s0,s1⟩
               go_simp;with_reducible rfl
              rotate_left
              ·simp only [Act.put,List.setIfInBounds_toArray,List.set_cons_zero,List.set_cons_succ,i64_w,i32_w];rfl
              refine take_ (i := 7) (N := some 39) (v := ?_) (a' := ?_) #[true,true,true,true,true,true,true,true,false,false] rfl rfl (take_ofW HT_.out HW_.out (by kernel_rfl)) (fun _ _ _ h => h) (Or.inl ⟨by rfl,?_⟩) hHeld ?_ ?_;rotate_left
              ·rintro w' ⟨s0,s1⟩
               go_simp;with_reducible rfl
              rotate_left
              ·simp only [Act.put,List.setIfInBounds_toArray,List.set_cons_zero,List.set_cons_succ,i64_w,i32_w];rfl
              refine one_ (i := 8) (N := some 40) #[true,true,true,true,true,true,true,true,true,false] rfl rfl (one_of HT_.out (by kernel_rfl)) (by decide) (fun K hK => ?_);refine goes_ Try.func85 (by kernel_rfl) rfl #[.slice A102_0 (rd_L5 l0 x8_1).length c102_0,.slice A103_0 (rd_L5 l0 x10_2).length c103_0] (by rfl) rfl rfl (by (try simp only [List.map_toArray,List.map_cons,List.map_nil]);first | done | rfl | (simp only [List.length_drop,List.length_take];rfl)) ?_
              with_reducible refine (spec_l07Costs.calls k2 _ _ (rd_L5 l0 x8_1) _ _ (rd_L5 l0 x10_2) t104 _ ?side1 ?side2 ?side3 ?side4 A11.out).mono ?_
              (case side1 => repeat (first | exact (Kd.C_below HR102_0.out HB.out) | (with_reducible refine Kd.C_alloc ?_ _) | (with_reducible refine Kd.C_drewN ?_ _) | (with_reducible refine Kd.C_drew ?_)));(case side2 => exact HC102_0.out);(case side3 => repeat (first | exact (Kd.C_below HR103_0.out HB.out) | (with_reducible refine Kd.C_alloc ?_ _) | (with_reducible refine Kd.C_drewN ?_ _) | (with_reducible refine Kd.C_drew ?_)));(case side4 => exact HC103_0.out)
              rintro e w15 ⟨v105,rfl,ho0,hb⟩
              refine ⟨_,rfl,?_⟩;have n0_ := Aside0.mk (Kd.S_lower ho0 (below_size (by repeat (first | (with_reducible first | exact HB.out | apply below_alloc | apply pw_below_drewN | apply below_drew1) | exact HB.out))));have n1_ := Aside0.mk (below_step (by repeat (first | (with_reducible first | exact HB.out | apply below_alloc | apply pw_below_drewN | apply below_drew1) | exact HB.out)) hb);clear HB;have HO106 := n0_;have HB := n1_;clear n0_ n1_;(try clear hb);(try clear hb2);(try clear hk);(try clear hi);(try clear ho0);refine hK.out _ _ ⟨((HB.out.cell (World.block_lt_of_cell? w _ hw102_0)).trans hw102_0),((HB.out.cell (World.block_lt_of_cell? w _ hw103_0)).trans hw103_0)⟩ (fun hHeld => ?_);clear hK K;refine norm_ (a' := ?_) ?_ ?_;rotate_left
              ·show Act.put _ (some 40) _ = _
               simp only [Act.put,List.setIfInBounds_toArray,List.set_cons_zero,List.set_cons_succ,i64_w,i32_w];rfl
              refine pure_ (i := 9) (N := some 11) (v := ?_) (a' := ?_) #[true,true,true,true,true,true,true,true,true,true] rfl rfl (any_of HT_.out (by kernel_rfl)) (fun _ _ _ h => h) (Or.inl ⟨by rfl,?_⟩) ?_ ?_;rotate_left
              ·intro w';go_simp;with_reducible rfl
              rotate_left
              ·simp only [Act.put,List.setIfInBounds_toArray,List.set_cons_zero,List.set_cons_succ,i64_w,i32_w];rfl
              refine done_ (done_of HT_.out (by kernel_rfl)) ?_;obtain ⟨Ao16,co16,eo16⟩ := Kd.S_slice HO106.out;subst eo16;have p107 : 0 ≤ (0 : Int) := (by omega);have q107 : 0 < (t104.length : Int) := of_decide_eq_true (by first | (with_reducible assumption) | assumption);obtain ⟨ad107,A107_0,c107_0,e107,hx107_0,hl107_0,hi107_0⟩ := at_L6 (Kd.S_reads' HO106.out).2.2 0 p107 q107;cases e107;obtain ⟨ce107,hce107,hMe107,hcc107⟩ := Kd.S_get HO106.out [] 0 p107 (by first | exact q107 | exact of_decide_eq_true (by first | (with_reducible assumption) | assumption) | (have e_ := (Kd.S_reads' HO106.out).1;omega));obtain ⟨ve107_0,rfl,ge107_0⟩ := hMe107;have hv107_0 := hcc107 0 _ rfl;rw [Nat.add_zero,show ((Kd.slice 2 (Kd.int .i64))).sz = 1 from rfl,Nat.mul_one] at hv107_0;replace hv107_0 := Option.some.inj (hv107_0.symm.trans hx107_0);rw [hv107_0] at ge107_0;have HL107_0 := Aside0.mk (show Kd.R (Kd.int .i64) 2 _ _ _ _ (rd_L6 t104 0) from ge107_0);clear hv107_0 ge107_0;clear hcc107 hce107;have qi107 : (0 < t104.length) = True := eq_true (by omega);(try rw [show ((0 : Int)).toNat = 0 from rfl] at hx107_0);(try rw [Addr.add_zero'] at hx107_0);have HR107_0 := Aside0.mk hi107_0;have HC107_0 := Aside0.mk hl107_0;clear hi107_0 hl107_0;replace p107 := eq_true p107;replace q107 := eq_true q107;have p108 : 0 ≤ (0 : Int) := (by omega);have q108 : 0 < ((rd_L6 t104 0).length : Int) := of_decide_eq_true (by first | (with_reducible assumption) | assumption);obtain ⟨ad108,e108,hx108_0⟩ := Kd.at_int (by repeat (first | (with_reducible exact HR107_0.out) | (with_reducible refine Kd.C_alloc ?_ _) | (with_reducible refine Kd.C_drewN ?_ _) | (with_reducible refine Kd.C_drew ?_) | exact HR107_0.out)) 0 p108 q108;cases e108;have qi108 : (0 < (rd_L6 t104 0).length) = True := eq_true (by omega);(try rw [show ((0 : Int)).toNat = 0 from rfl] at hx108_0);(try rw [Addr.add_zero'] at hx108_0);replace p108 := eq_true p108;replace q108 := eq_true q108;(try go_wp2)
              go_roundg k2
              case measure => have := HK1.out;have := HK2.out;omega
              case rel => exact ⟨(wrap64 (x9_2 + (rd (rd_L6 t104 0) 0))),(wrap64 (x10_2 + 1)),(by first | rfl | (simp only [IntKind.wrap_i64,wrap64];done) | (simp;done) | (simp [*];done)),(by first | rfl | (simp only [IntKind.wrap_i64,wrap64];done) | (simp;done) | (simp [*];done)),H',⟨by have := HK1.out;have := HK2.out;omega⟩,⟨by repeat (first | (with_reducible first | exact HB.out | apply below_alloc | apply pw_below_drewN | apply below_drew1) | exact HB.out)⟩⟩
             ·rw [if_neg c13] at H;exact absurd H (by simp)
            ·rw [if_neg c12] at H;exact absurd H (by simp)
           ·rw [if_neg c10] at H;exact absurd H (by simp)
          ·rw [if_neg c9] at H;exact absurd H (by simp)
         ·rw [if_neg c8] at H;exact absurd H (by simp)
       ·rw [if_neg c6] at H;have c6b0 : decide (x10_2 < (l0.length : Int)) = false := decide_eq_false c6;clear c6
        by_cases c17 : x7_1 < 0
        ·rw [if_pos c17] at H;have c17b0 : decide (x7_1 < 0) = true := decide_eq_true c17;clear c17;have H' := Aside0.mk H;clear H
         go_wp2
         go_roundg k2
         case measure => have := HK1.out;have := HK2.out;omega
         case rel => exact ⟨(x8_1),(x9_2),(wrap64 (x8_1 + 1)),(by first | rfl | (simp only [IntKind.wrap_i64,wrap64];done) | (simp;done) | (simp [*];done)),(by first | rfl | (simp only [IntKind.wrap_i64,wrap64];done) | (simp;done) | (simp [*];done)),(by first | rfl | (simp only [IntKind.wrap_i64,wrap64];done) | (simp;done) | (simp [*];done)),H',⟨by have := HK1.out;have := HK2.out;omega⟩,⟨by repeat (first | (with_reducible first | exact HB.out | apply below_alloc | apply pw_below_drewN | apply below_drew1) | exact HB.out)⟩⟩
        ·rw [if_neg c17] at H;have c17b0 : decide (x7_1 < 0) = false := decide_eq_false c17;clear c17
         by_cases c18 : x9_2 < x7_1
         ·rw [if_pos c18] at H;have c18b0 : decide (x9_2 < x7_1) = true := decide_eq_true c18;clear c18;have H' := Aside0.mk H;clear H
          go_wp2
          go_roundg k2
          case measure => have := HK1.out;have := HK2.out;omega
          case rel => exact ⟨(x8_1),(x9_2),(wrap64 (x8_1 + 1)),(by first | rfl | (simp only [IntKind.wrap_i64,wrap64];done) | (simp;done) | (simp [*];done)),(by first | rfl | (simp only [IntKind.wrap_i64,wrap64];done) | (simp;done) | (simp [*];done)),(by first | rfl | (simp only [IntKind.wrap_i64,wrap64];done) | (simp;done) | (simp [*];done)),H',⟨by have := HK1.out;have := HK2.out;omega⟩,⟨by repeat (first | (with_reducible first | exact HB.out | apply below_alloc | apply pw_below_drewN | apply below_drew1) | exact HB.out)⟩⟩
         ·rw [if_neg c18] at H;have c18b0 : decide (x9_2 < x7_1) = false := decide_eq_false c18;clear c18;have H' := Aside0.mk H;clear H
          go_wp2
          go_roundg k2
          case measure => have := HK1.out;have := HK2.out;omega
          case rel => exact ⟨(x6_1),(x7_1),(wrap64 (x8_1 + 1)),(by first | rfl | (simp only [IntKind.wrap_i64,wrap64];done) | (simp;done) | (simp [*];done)),(by first | rfl | (simp only [IntKind.wrap_i64,wrap64];done) | (simp;done) | (simp [*];done)),(by first | rfl | (simp only [IntKind.wrap_i64,wrap64];done) | (simp;done) | (simp [*];done)),H',⟨by have := HK1.out;have := HK2.out;omega⟩,⟨by repeat (first | (with_reducible first | exact HB.out | apply below_alloc | apply pw_below_drewN | apply below_drew1) | exact HB.out)⟩⟩
    ·rw [if_neg c5] at H;have c5b0 : decide (x8_1 < (l0.length : Int)) = false := decide_eq_false c5;clear c5;simp only [Option.some.injEq,Prod.mk.injEq] at H;obtain ⟨rfl,rfl,rfl⟩ := H
     go_wp2
     go_ret3
     exact ⟨by first | rfl | (simp [errW_none,errW_some,IntKind.wrap_i64,wrap64];done) | (simp [errW_none,errW_some] <;> rfl) | (simp [*,errW_none,errW_some] <;> rfl),by repeat (first | (with_reducible first | exact HB.out | apply below_alloc | apply pw_below_drewN | apply below_drew1) | exact HB.out)⟩
 ·rw [if_neg c3] at H;have c3b0 : (t101 == 0) = false := beq_eq_false_iff_ne.mpr c3;have c3b1 : (t101 != 0) = true := bne_iff_ne.mpr c3;simp only [Option.some.injEq,Prod.mk.injEq] at H;obtain ⟨rfl,rfl,rfl⟩ := H
  go_enter Try.func60,Try.ntmps60
  go_wp2_with (first | ((with_reducible refine gate_callee (f := 100) rfl ?_);refine goesL_ (some 13) rfl rfl Try.func100 (by kernel_rfl) rfl #[.slice A0 l0.length c0] rfl (by (try simp only [List.map_toArray,List.map_cons,List.map_nil]);first | done | rfl | (simp only [List.length_drop,List.length_take];rfl)) ?_;(with_reducible refine (spec_l07Logs.calls k _ _ l0 t101 _ ?side1 ?side2 A2.out).mono ?_);(case side1 => repeat (first | exact HR0.out | (with_reducible refine Kd.C_alloc ?_ _) | (with_reducible refine Kd.C_drewN ?_ _) | (with_reducible refine Kd.C_drew ?_)));(case side2 => exact HC0.out);rintro e w19 ⟨rfl,hb⟩;refine ⟨_,rfl,?_⟩;have n0_ := Aside0.mk (below_step (by repeat (first | (with_reducible first | exact HB.out | apply below_alloc | apply pw_below_drewN | apply below_drew1) | exact HB.out)) hb);clear HB;have HB := n0_;clear n0_;(try clear hb);(try clear hb2);(try clear hk);(try clear hi)))
  go_ret3
  exact ⟨by first | rfl | (simp [errW_none,errW_some,IntKind.wrap_i64,wrap64];done) | (simp [errW_none,errW_some] <;> rfl) | (simp [*,errW_none,errW_some] <;> rfl),by repeat (first | (with_reducible first | exact HB.out | apply below_alloc | apply pw_below_drewN | apply below_drew1) | exact HB.out)⟩
end Go.Proofs.Ytidkniacmcbgiaa.G
end

section
namespace Go.Proofs.Ytidkniacmcbgiaa.G
open Go.RowKit Go.Proofs.YtidkniacmcbgiaaW.PrintWords Go.Proofs.YtidkniacmcbgiaaW.PrintLast Go.Proofs.YtidkniacmcbgiaaW.PrintMore
attribute [local go_sem] max2_int min2_int max_two min_two max_three min_three max_four min_four
set_option linter.unusedVariables false
set_option linter.unusedSimpArgs false
def laws_FnExactBestLog.j0 : Nat → List (List (S75)) → List (List (S73)) → Bool → Option (Bool)
 | 0,_,_,_ => none
 | k + 1,x0,x7,x43 => if x43 = true then (some false) else ((laws_toLogS.f k x0).bind fun t114 => ((laws_eqLogS.f k x7 t114).bind fun t117 => (if t117 = true then (some true) else (some false))))
def laws_FnExactBestLog.f (k : Nat) (l0 : List (List (S75))) : Option (Bool) := (laws_szLogS.f k l0 1048576).bind fun t101 => (if t101 < 0 then (some true) else ((laws_toLogS.f k l0).bind fun t102 => ((spec_BestLog.f k t102).bind fun bt105 => ((laws_toLogS.f k l0).bind fun t108 => ((impl_BestLog.f k t108).bind fun bt111 => (if bt111.1 = bt105.1 then (if bt111.2.1 = bt105.2.1 then (laws_FnExactBestLog.j0 k l0 t108 (bt111.2.2 != bt105.2.2)) else (laws_FnExactBestLog.j0 k l0 t108 true)) else (laws_FnExactBestLog.j0 k l0 t108 true)))))))
set_option maxHeartbeats 8000000 in
set_option maxRecDepth 100000 in
theorem laws_FnExactBestLog.calls (k : Nat) (A0 : Option Addr) (c0 : Nat) (l0 : List (List (S75))) (r : Bool) (w : World) (hr0 : Kd.C (Kd.slice 75 k75) w A0 l0.length l0) (hc0 : l0.length ≤ c0) (h : laws_FnExactBestLog.f k l0 = some r) :
  Calls Try.prog 14 #[.slice A0 l0.length c0] w fun e w' => e = .returned (.bool r) ∧ Below w.heap.size w w' := by
 have HR0 := Aside0.mk hr0;have HC0 := Aside0.mk hc0;clear hr0 hc0;have HB := Aside0.mk (Below.refl w.heap.size w);have H : ((laws_szLogS.f k l0 1048576).bind fun t101 => (if t101 < 0 then (some true) else ((laws_toLogS.f k l0).bind fun t102 => ((spec_BestLog.f k t102).bind fun bt105 => ((laws_toLogS.f k l0).bind fun t108 => ((impl_BestLog.f k t108).bind fun bt111 => (if bt111.1 = bt105.1 then (if bt111.2.1 = bt105.2.1 then (laws_FnExactBestLog.j0 k l0 t108 (bt111.2.2 != bt105.2.2)) else (laws_FnExactBestLog.j0 k l0 t108 true)) else (laws_FnExactBestLog.j0 k l0 t108 true)))))))) = some r := h;clear h;replace H := Option.bind_eq_some_iff.mp H;obtain ⟨t101,A20,H⟩ := H;replace H : (if t101 < 0 then (some true) else ((laws_toLogS.f k l0).bind fun t102 => ((spec_BestLog.f k t102).bind fun bt105 => ((laws_toLogS.f k l0).bind fun t108 => ((impl_BestLog.f k t108).bind fun bt111 => (if bt111.1 = bt105.1 then (if bt111.2.1 = bt105.2.1 then (laws_FnExactBestLog.j0 k l0 t108 (bt111.2.2 != bt105.2.2)) else (laws_FnExactBestLog.j0 k l0 t108 true)) else (laws_FnExactBestLog.j0 k l0 t108 true))))))) = some r := H;have A2 := Aside0.mk A20;clear A20
 by_cases c3 : t101 < 0
 ·rw [if_pos c3] at H;have c3b0 : decide (t101 < 0) = true := decide_eq_true c3;clear c3;obtain rfl := Option.some.inj H
  go_enter Try.func14,Try.ntmps14
  go_wp2_with (first | ((with_reducible refine gate_callee (f := 51) rfl ?_);refine goesL_ (some 13) rfl rfl Try.func51 (by kernel_rfl) rfl #[.slice A0 l0.length c0,.int .i64 1048576] rfl (by (try simp only [List.map_toArray,List.map_cons,List.map_nil]);first | done | rfl | (simp only [List.length_drop,List.length_take];rfl)) ?_;(with_reducible refine (laws_szLogS.calls k _ _ l0 1048576 t101 _ ?side1 ?side2 A2.out).mono ?_);(case side1 => repeat (first | exact HR0.out | (with_reducible refine Kd.C_alloc ?_ _) | (with_reducible refine Kd.C_drewN ?_ _) | (with_reducible refine Kd.C_drew ?_)));(case side2 => exact HC0.out);rintro e w' ⟨rfl,⟨nd,rfl⟩⟩;refine ⟨_,rfl,?_⟩))
  go_ret
  exact ⟨by first | rfl | (simp [errW_none,errW_some,IntKind.wrap_i64,wrap64];done) | (simp [errW_none,errW_some] <;> rfl) | (simp [*,errW_none,errW_some] <;> rfl),by repeat (first | (with_reducible first | exact HB.out | apply below_alloc | apply pw_below_drewN | apply below_drew1) | exact HB.out)⟩
 ·rw [if_neg c3] at H;have c3b0 : decide (t101 < 0) = false := decide_eq_false c3;clear c3;replace H := Option.bind_eq_some_iff.mp H;obtain ⟨t102,A40,H⟩ := H;replace H : ((spec_BestLog.f k t102).bind fun bt105 => ((laws_toLogS.f k l0).bind fun t108 => ((impl_BestLog.f k t108).bind fun bt111 => (if bt111.1 = bt105.1 then (if bt111.2.1 = bt105.2.1 then (laws_FnExactBestLog.j0 k l0 t108 (bt111.2.2 != bt105.2.2)) else (laws_FnExactBestLog.j0 k l0 t108 true)) else (laws_FnExactBestLog.j0 k l0 t108 true))))) = some r := H;have A4 := Aside0.mk A40;clear A40;replace H := Option.bind_eq_some_iff.mp H;obtain ⟨⟨t105,t106,t107⟩,A50,H⟩ := H;replace H : ((laws_toLogS.f k l0).bind fun t108 => ((impl_BestLog.f k t108).bind fun bt111 => (if bt111.1 = t105 then (if bt111.2.1 = t106 then (laws_FnExactBestLog.j0 k l0 t108 (bt111.2.2 != t107)) else (laws_FnExactBestLog.j0 k l0 t108 true)) else (laws_FnExactBestLog.j0 k l0 t108 true)))) = some r := H;have A5 := Aside0.mk A50;clear A50;replace H := Option.bind_eq_some_iff.mp H;obtain ⟨t108,A60,H⟩ := H;replace H : ((impl_BestLog.f k t108).bind fun bt111 => (if bt111.1 = t105 then (if bt111.2.1 = t106 then (laws_FnExactBestLog.j0 k l0 t108 (bt111.2.2 != t107)) else (laws_FnExactBestLog.j0 k l0 t108 true)) else (laws_FnExactBestLog.j0 k l0 t108 true))) = some r := H;have A6 := Aside0.mk A60;clear A60;replace H := Option.bind_eq_some_iff.mp H;obtain ⟨⟨t111,t112,t113⟩,A70,H⟩ := H;replace H : (if t111 = t105 then (if t112 = t106 then (laws_FnExactBestLog.j0 k l0 t108 (t113 != t107)) else (laws_FnExactBestLog.j0 k l0 t108 true)) else (laws_FnExactBestLog.j0 k l0 t108 true)) = some r := H;have A7 := Aside0.mk A70;clear A70;have HC8 := Aside0.mk H;clear H
  go_enter Try.func14,Try.ntmps14
  go_upto_region 8 with (first | ((with_reducible refine gate_callee (f := 51) rfl ?_);refine goesL_ (some 13) rfl rfl Try.func51 (by kernel_rfl) rfl #[.slice A0 l0.length c0,.int .i64 1048576] rfl (by (try simp only [List.map_toArray,List.map_cons,List.map_nil]);first | done | rfl | (simp only [List.length_drop,List.length_take];rfl)) ?_;(with_reducible refine (laws_szLogS.calls k _ _ l0 1048576 t101 _ ?side1 ?side2 A2.out).mono ?_);(case side1 => repeat (first | exact HR0.out | (with_reducible refine Kd.C_alloc ?_ _) | (with_reducible refine Kd.C_drewN ?_ _) | (with_reducible refine Kd.C_drew ?_)));(case side2 => exact HC0.out);rintro e w' ⟨rfl,⟨nd,rfl⟩⟩;refine ⟨_,rfl,?_⟩) | ((with_reducible refine gate_callee (f := 53) rfl ?_);refine goesL_ (some 18) rfl rfl Try.func53 (by kernel_rfl) rfl #[.slice A0 l0.length c0] rfl (by (try simp only [List.map_toArray,List.map_cons,List.map_nil]);first | done | rfl | (simp only [List.length_drop,List.length_take];rfl)) ?_;(with_reducible refine (laws_toLogS.calls k _ _ l0 t102 _ ?side1 ?side2 A4.out).mono ?_);(case side1 => repeat (first | exact HR0.out | (with_reducible refine Kd.C_alloc ?_ _) | (with_reducible refine Kd.C_drewN ?_ _) | (with_reducible refine Kd.C_drew ?_)));(case side2 => exact HC0.out);rintro e w9 ⟨v103,rfl,ho0,hb⟩;refine ⟨_,rfl,?_⟩;have n0_ := Aside0.mk (Kd.S_lower ho0 (below_size (by repeat (first | (with_reducible first | exact HB.out | apply below_alloc | apply pw_below_drewN | apply below_drew1) | exact HB.out))));have n1_ := Aside0.mk (below_step (by repeat (first | (with_reducible first | exact HB.out | apply below_alloc | apply pw_below_drewN | apply below_drew1) | exact HB.out)) hb);clear HB;have HO104 := n0_;have HB := n1_;clear n0_ n1_;(try clear hb);(try clear hb2);(try clear hk);(try clear hi);(try clear ho0);obtain ⟨Ao10,co10,eo10⟩ := Kd.S_slice HO104.out;subst eo10) | ((with_reducible refine gate_callee (f := 60) rfl ?_);refine goesL_ (some 19) rfl rfl Try.func60 (by kernel_rfl) rfl #[.slice Ao10 t102.length co10] rfl (by (try simp only [List.map_toArray,List.map_cons,List.map_nil]);first | done | rfl | (simp only [List.length_drop,List.length_take];rfl)) ?_;(with_reducible refine (spec_BestLog.calls k _ _ t102 t105 t106 t107 _ ?side1 ?side2 A5.out).mono ?_);(case side1 => repeat (first | exact (Kd.S_reads' HO104.out).2.2 | (with_reducible refine Kd.C_alloc ?_ _) | (with_reducible refine Kd.C_drewN ?_ _) | (with_reducible refine Kd.C_drew ?_)));(case side2 => exact (Kd.S_reads' HO104.out).2.1);rintro e w11 ⟨rfl,hb⟩;refine ⟨_,rfl,?_⟩;have n0_ := Aside0.mk (Kd.S_below (by (with_reducible repeat (first | apply Kd.S_alloc | apply Kd.S_drewN | apply Kd.S_drew));exact HO104.out) hb);have n1_ := Aside0.mk (below_step (by repeat (first | (with_reducible first | exact HB.out | apply below_alloc | apply pw_below_drewN | apply below_drew1) | exact HB.out)) hb);clear HO104;clear HB;have HO104 := n0_;have HB := n1_;clear n0_ n1_;(try clear hb);(try clear hb2);(try clear hk);(try clear hi)) | ((with_reducible refine gate_callee (f := 53) rfl ?_);refine goesL_ (some 24) rfl rfl Try.func53 (by kernel_rfl) rfl #[.slice A0 l0.length c0] rfl (by (try simp only [List.map_toArray,List.map_cons,List.map_nil]);first | done | rfl | (simp only [List.length_drop,List.length_take];rfl)) ?_;(with_reducible refine (laws_toLogS.calls k _ _ l0 t108 _ ?side1 ?side2 A6.out).mono ?_);(case side1 => repeat (first | exact (Kd.C_below HR0.out HB.out) | (with_reducible refine Kd.C_alloc ?_ _) | (with_reducible refine Kd.C_drewN ?_ _) | (with_reducible refine Kd.C_drew ?_)));(case side2 => exact HC0.out);rintro e w12 ⟨v109,rfl,ho0,hb⟩;refine ⟨_,rfl,?_⟩;have n0_ := Aside0.mk (Kd.S_elder' (by (with_reducible repeat (first | apply Kd.S_alloc | apply Kd.S_drewN | apply Kd.S_drew));exact HO104.out) (Kd.S_base ho0) hb);have n1_ := Aside0.mk (Kd.S_lower (Kd.S_new' ho0 (Kd.S_lt (by (with_reducible repeat (first | apply Kd.S_alloc | apply Kd.S_drewN | apply Kd.S_drew));exact HO104.out))) (below_size (by repeat (first | (with_reducible first | exact HB.out | apply below_alloc | apply pw_below_drewN | apply below_drew1) | exact HB.out))));have n2_ := Aside0.mk (below_step (by repeat (first | (with_reducible first | exact HB.out | apply below_alloc | apply pw_below_drewN | apply below_drew1) | exact HB.out)) hb);clear HO104;clear HB;have HO104 := n0_;have HO110 := n1_;have HB := n2_;clear n0_ n1_ n2_;(try clear hb);(try clear hb2);(try clear hk);(try clear hi);(try clear ho0);obtain ⟨Ao13,co13,eo13⟩ := Kd.S_slice HO110.out;subst eo13) | ((with_reducible refine gate_callee (f := 61) rfl ?_);refine goesL_ (some 27) rfl rfl Try.func61 (by kernel_rfl) rfl #[.slice Ao13 t108.length co13] rfl (by (try simp only [List.map_toArray,List.map_cons,List.map_nil]);first | done | rfl | (simp only [List.length_drop,List.length_take];rfl)) ?_;(with_reducible refine (impl_BestLog.calls k _ _ t108 t111 t112 t113 _ ?side1 ?side2 A7.out).mono ?_);(case side1 => repeat (first | exact (Kd.S_reads' HO110.out).2.2 | (with_reducible refine Kd.C_alloc ?_ _) | (with_reducible refine Kd.C_drewN ?_ _) | (with_reducible refine Kd.C_drew ?_)));(case side2 => exact (Kd.S_reads' HO110.out).2.1);rintro e w14 ⟨rfl,hb⟩;refine ⟨_,rfl,?_⟩;have n0_ := Aside0.mk (Kd.S_below (by (with_reducible repeat (first | apply Kd.S_alloc | apply Kd.S_drewN | apply Kd.S_drew));exact HO104.out) hb);have n1_ := Aside0.mk (Kd.S_below (by (with_reducible repeat (first | apply Kd.S_alloc | apply Kd.S_drewN | apply Kd.S_drew));exact HO110.out) hb);have n2_ := Aside0.mk (below_step (by repeat (first | (with_reducible first | exact HB.out | apply below_alloc | apply pw_below_drewN | apply below_drew1) | exact HB.out)) hb);clear HO104;clear HO110;clear HB;have HO104 := n0_;have HO110 := n1_;have HB := n2_;clear n0_ n1_ n2_;(try clear hb);(try clear hb2);(try clear hk);(try clear hi)))
  (try simp only [Act.put,List.setIfInBounds_toArray,List.set_cons_zero,List.set_cons_succ])
  go_cut [43] (fun v43 wc => ∃ (kq : Nat) (x43_7 : Bool),v43 = .bool x43_7 ∧ Aside0 (laws_FnExactBestLog.j0 kq l0 t108 x43_7 = some r) ∧ Aside0 (kq ≤ k) ∧ Aside0 (Kd.S (Kd.slice 73 k73) 26 wc w.heap.size (fun _ => True) (.slice Ao13 t108.length co13) t108) ∧ Aside0 (Below w.heap.size w wc))
  case first =>
   have H := HC8.out;clear HC8
   by_cases c15 : t111 = t105
   ·rw [if_pos c15] at H;have c15b0 : (t111 == t105) = true := beq_iff_eq.mpr c15;have c15b1 : (t111 != t105) = false := bne_eq_false_iff_eq.mpr c15;clear c15;(first | rw [c15b0] | (simp only [i64_w,i32_w];rw [c15b0]) | skip)
    by_cases c16 : t112 = t106
    ·rw [if_pos c16] at H;have c16b0 : (t112 == t106) = true := beq_iff_eq.mpr c16;have c16b1 : (t112 != t106) = false := bne_eq_false_iff_eq.mpr c16;clear c16;have H' := Aside0.mk H;clear H
     go_wp2
     go_meet
     case rel => exact ⟨_,((t113 != t107)),(by first | rfl | (simp only [IntKind.wrap_i64,wrap64];done) | (simp;done) | (simp [*];done)),H',⟨by first | omega | exact Nat.le_refl _⟩,⟨by (with_reducible repeat (first | apply Kd.S_alloc | apply Kd.S_drewN | apply Kd.S_drew));exact Kd.S_mono HO110.out (fun _ hk => trivial)⟩,⟨by repeat (first | (with_reducible first | exact HB.out | apply below_alloc | apply pw_below_drewN | apply below_drew1) | exact HB.out)⟩⟩
    ·rw [if_neg c16] at H;have c16b0 : (t112 == t106) = false := beq_eq_false_iff_ne.mpr c16;have c16b1 : (t112 != t106) = true := bne_iff_ne.mpr c16;have H' := Aside0.mk H;clear H
     go_wp2
     go_meet
     case rel => exact ⟨_,(true),(by first | rfl | (simp only [IntKind.wrap_i64,wrap64];done) | (simp;done) | (simp [*];done)),H',⟨by first | omega | exact Nat.le_refl _⟩,⟨by (with_reducible repeat (first | apply Kd.S_alloc | apply Kd.S_drewN | apply Kd.S_drew));exact Kd.S_mono HO110.out (fun _ hk => trivial)⟩,⟨by repeat (first | (with_reducible first | exact HB.out | apply below_alloc | apply pw_below_drewN | apply below_drew1) | exact HB.out)⟩⟩
   ·rw [if_neg c15] at H;have c15b0 : (t111 == t105) = false := beq_eq_false_iff_ne.mpr c15;have c15b1 : (t111 != t105) = true := bne_iff_ne.mpr c15;(first | rw [c15b0] | (simp only [i64_w,i32_w];rw [c15b0]) | skip);have H' := Aside0.mk H;clear H
    go_wp2
    go_meet
    case rel => exact ⟨_,(true),(by first | rfl | (simp only [IntKind.wrap_i64,wrap64];done) | (simp;done) | (simp [*];done)),H',⟨by first | omega | exact Nat.le_refl _⟩,⟨by (with_reducible repeat (first | apply Kd.S_alloc | apply Kd.S_drewN | apply Kd.S_drew));exact Kd.S_mono HO110.out (fun _ hk => trivial)⟩,⟨by repeat (first | (with_reducible first | exact HB.out | apply below_alloc | apply pw_below_drewN | apply below_drew1) | exact HB.out)⟩⟩
  case rest =>
   clear HC8;(try clear c1);(try clear p2);(try clear c3);(try clear c3b0);(try clear c5);(try clear c6);(try clear c14);(try clear c15);(try clear c15b0);(try clear c15b1);(try clear c16);(try clear c16b0);(try clear c16b1);obtain ⟨kq,x43_7,rfl,HA,HJ7,HO_7,HB⟩ := hcut
   cases kq with
   | zero => exact absurd HA.out (by simp [laws_FnExactBestLog.j0])
   | succ kj7 =>
    have H := HA.out;clear HA;simp only [laws_FnExactBestLog.j0] at H
    by_cases c17 : x43_7 = true
    ·subst c17
     have H1 : (some false) = some r := by rw [if_pos rfl] at H;exact H
     clear H;have H := H1;clear H1;obtain rfl := Option.some.inj H
     go_wp2
     go_ret
     exact ⟨by first | rfl | (simp [errW_none,errW_some,IntKind.wrap_i64,wrap64];done) | (simp [errW_none,errW_some] <;> rfl) | (simp [*,errW_none,errW_some] <;> rfl),by repeat (first | (with_reducible first | exact HB.out | apply below_alloc | apply pw_below_drewN | apply below_drew1) | exact HB.out)⟩
    ·replace c17 := Bool.eq_false_iff.mpr c17;subst c17
     have H1 : ((laws_toLogS.f kj7 l0).bind fun t114 => ((laws_eqLogS.f kj7 t108 t114).bind fun t117 => (if t117 = true then (some true) else (some false)))) = some r := by rw [if_neg (show ¬ (false = true) by decide)] at H;exact H
     clear H;have H := H1;clear H1;replace H := Option.bind_eq_some_iff.mp H;obtain ⟨t114,A180,H⟩ := H;replace H : ((laws_eqLogS.f kj7 t108 t114).bind fun t117 => (if t117 = true then (some true) else (some false))) = some r := H;have A18 := Aside0.mk A180;clear A180;replace H := Option.bind_eq_some_iff.mp H;obtain ⟨t117,A190,H⟩ := H;replace H : (if t117 = true then (some true) else (some false)) = some r := H;have A19 := Aside0.mk A190;clear A190
     by_cases c20 : t117 = true
     ·subst c20
      have H1 : (some true) = some r := by rw [if_pos rfl] at H;exact H
      clear H;have H := H1;clear H1;obtain rfl := Option.some.inj H
      go_wp2_with (first | ((with_reducible refine gate_callee (f := 53) rfl ?_);refine goesL_ (some 46) rfl rfl Try.func53 (by kernel_rfl) rfl #[.slice A0 l0.length c0] rfl (by (try simp only [List.map_toArray,List.map_cons,List.map_nil]);first | done | rfl | (simp only [List.length_drop,List.length_take];rfl)) ?_;(with_reducible refine (laws_toLogS.calls kj7 _ _ l0 t114 _ ?side1 ?side2 A18.out).mono ?_);(case side1 => repeat (first | exact (Kd.C_below HR0.out HB.out) | (with_reducible refine Kd.C_alloc ?_ _) | (with_reducible refine Kd.C_drewN ?_ _) | (with_reducible refine Kd.C_drew ?_)));(case side2 => exact HC0.out);rintro e w21 ⟨v115,rfl,ho0,hb⟩;refine ⟨_,rfl,?_⟩;have n0_ := Aside0.mk (Kd.S_elder' (by (with_reducible repeat (first | apply Kd.S_alloc | apply Kd.S_drewN | apply Kd.S_drew));exact HO_7.out) (Kd.S_base ho0) hb);have n1_ := Aside0.mk (Kd.S_lower (Kd.S_new' ho0 (Kd.S_lt (by (with_reducible repeat (first | apply Kd.S_alloc | apply Kd.S_drewN | apply Kd.S_drew));exact HO_7.out))) (below_size (by repeat (first | (with_reducible first | exact HB.out | apply below_alloc | apply pw_below_drewN | apply below_drew1) | exact HB.out))));have n2_ := Aside0.mk (below_step (by repeat (first | (with_reducible first | exact HB.out | apply below_alloc | apply pw_below_drewN | apply below_drew1) | exact HB.out)) hb);clear HO_7;clear HB;have HO_7 := n0_;have HO116 := n1_;have HB := n2_;clear n0_ n1_ n2_;(try clear hb);(try clear hb2);(try clear hk);(try clear hi);(try clear ho0);obtain ⟨Ao22,co22,eo22⟩ := Kd.S_slice HO116.out;subst eo22) | ((with_reducible refine gate_callee (f := 55) rfl ?_);refine goesL_ (some 47) rfl rfl Try.func55 (by kernel_rfl) rfl #[.slice Ao13 t108.length co13,.slice Ao22 t114.length co22] rfl (by (try simp only [List.map_toArray,List.map_cons,List.map_nil]);first | done | rfl | (simp only [List.length_drop,List.length_take];rfl)) ?_;(with_reducible refine (laws_eqLogS.calls kj7 _ _ t108 _ _ t114 true _ ?side1 ?side2 ?side3 ?side4 A19.out).mono ?_);(case side1 => repeat (first | exact (Kd.S_reads' HO_7.out).2.2 | (with_reducible refine Kd.C_alloc ?_ _) | (with_reducible refine Kd.C_drewN ?_ _) | (with_reducible refine Kd.C_drew ?_)));(case side2 => exact (Kd.S_reads' HO_7.out).2.1);(case side3 => repeat (first | exact (Kd.S_reads' HO116.out).2.2 | (with_reducible refine Kd.C_alloc ?_ _) | (with_reducible refine Kd.C_drewN ?_ _) | (with_reducible refine Kd.C_drew ?_)));(case side4 => exact (Kd.S_reads' HO116.out).2.1);rintro e w23 ⟨rfl,hb⟩;refine ⟨_,rfl,?_⟩;have n0_ := Aside0.mk (Kd.S_below (by (with_reducible repeat (first | apply Kd.S_alloc | apply Kd.S_drewN | apply Kd.S_drew));exact HO_7.out) hb);have n1_ := Aside0.mk (Kd.S_below (by (with_reducible repeat (first | apply Kd.S_alloc | apply Kd.S_drewN | apply Kd.S_drew));exact HO116.out) hb);have n2_ := Aside0.mk (below_step (by repeat (first | (with_reducible first | exact HB.out | apply below_alloc | apply pw_below_drewN | apply below_drew1) | exact HB.out)) hb);clear HO_7;clear HO116;clear HB;have HO_7 := n0_;have HO116 := n1_;have HB := n2_;clear n0_ n1_ n2_;(try clear hb);(try clear hb2);(try clear hk);(try clear hi)))
      go_ret
      exact ⟨by first | rfl | (simp [errW_none,errW_some,IntKind.wrap_i64,wrap64];done) | (simp [errW_none,errW_some] <;> rfl) | (simp [*,errW_none,errW_some] <;> rfl),by repeat (first | (with_reducible first | exact HB.out | apply below_alloc | apply pw_below_drewN | apply below_drew1) | exact HB.out)⟩
     ·replace c20 := Bool.eq_false_iff.mpr c20;subst c20
      have H1 : (some false) = some r := by rw [if_neg (show ¬ (false = true) by decide)] at H;exact H
      clear H;have H := H1;clear H1;obtain rfl := Option.some.inj H
      go_wp2_with (first | ((with_reducible refine gate_callee (f := 53) rfl ?_);refine goesL_ (some 46) rfl rfl Try.func53 (by kernel_rfl) rfl #[.slice A0 l0.length c0] rfl (by (try simp only [List.map_toArray,List.map_cons,List.map_nil]);first | done | rfl | (simp only [List.length_drop,List.length_take];rfl)) ?_;(with_reducible refine (laws_toLogS.calls kj7 _ _ l0 t114 _ ?side1 ?side2 A18.out).mono ?_);(case side1 => repeat (first | exact (Kd.C_below HR0.out HB.out) | (with_reducible refine Kd.C_alloc ?_ _) | (with_reducible refine Kd.C_drewN ?_ _) | (with_reducible refine Kd.C_drew ?_)));(case side2 => exact HC0.out);rintro e w24 ⟨v115,rfl,ho0,hb⟩;refine ⟨_,rfl,?_⟩;have n0_ := Aside0.mk (Kd.S_elder' (by (with_reducible repeat (first | apply Kd.S_alloc | apply Kd.S_drewN | apply Kd.S_drew));exact HO_7.out) (Kd.S_base ho0) hb);have n1_ := Aside0.mk (Kd.S_lower (Kd.S_new' ho0 (Kd.S_lt (by (with_reducible repeat (first | apply Kd.S_alloc | apply Kd.S_drewN | apply Kd.S_drew));exact HO_7.out))) (below_size (by repeat (first | (with_reducible first | exact HB.out | apply below_alloc | apply pw_below_drewN | apply below_drew1) | exact HB.out))));have n2_ := Aside0.mk (below_step (by repeat (first | (with_reducible first | exact HB.out | apply below_alloc | apply pw_below_drewN | apply below_drew1) | exact HB.out)) hb);clear HO_7;clear HB;have HO_7 := n0_;have HO116 := n1_;have HB := n2_;clear n0_ n1_ n2_;(try clear hb);(try clear hb2);(try clear hk);(try clear hi);(try clear ho0);obtain ⟨Ao25,co25,eo25⟩ := Kd.S_slice HO116.out;subst eo25) | ((with_reducible refine gate_callee (f := 55) rfl ?_);refine goesL_ (some 47) rfl rfl Try.func55 (by kernel_rfl) rfl #[.slice Ao13 t108.length co13,.slice Ao25 t114.length co25] rfl (by (try simp only [List.map_toArray,List.map_cons,List.map_nil]);first | done | rfl | (simp only [List.length_drop,List.length_take];rfl)) ?_;(with_reducible refine (laws_eqLogS.calls kj7 _ _ t108 _ _ t114 false _ ?side1 ?side2 ?side3 ?side4 A19.out).mono ?_);(case side1 => repeat (first | exact (Kd.S_reads' HO_7.out).2.2 | (with_reducible refine Kd.C_alloc ?_ _) | (with_reducible refine Kd.C_drewN ?_ _) | (with_reducible refine Kd.C_drew ?_)));(case side2 => exact (Kd.S_reads' HO_7.out).2.1);(case side3 => repeat (first | exact (Kd.S_reads' HO116.out).2.2 | (with_reducible refine Kd.C_alloc ?_ _) | (with_reducible refine Kd.C_drewN ?_ _) | (with_reducible refine Kd.C_drew ?_)));(case side4 => exact (Kd.S_reads' HO116.out).2.1);rintro e w26 ⟨rfl,hb⟩;refine ⟨_,rfl,?_⟩;have n0_ := Aside0.mk (Kd.S_below (by (with_reducible repeat (first | apply Kd.S_alloc | apply Kd.S_drewN | apply Kd.S_drew));exact HO_7.out) hb);have n1_ := Aside0.mk (Kd.S_below (by (with_reducible repeat (first | apply Kd.S_alloc | apply Kd.S_drewN | apply Kd.S_drew));exact HO116.out) hb);have n2_ := Aside0.mk (below_step (by repeat (first | (with_reducible first | exact HB.out | apply below_alloc | apply pw_below_drewN | apply below_drew1) | exact HB.out)) hb);clear HO_7;clear HO116;clear HB;have HO_7 := n0_;have HO116 := n1_;have HB := n2_;clear n0_ n1_ n2_;(try clear hb);(try clear hb2);(try clear hk);(try clear hi)))
      go_ret
      exact ⟨by first | rfl | (simp [errW_none,errW_some,IntKind.wrap_i64,wrap64];done) | (simp [errW_none,errW_some] <;> rfl) | (simp [*,errW_none,errW_some] <;> rfl),by repeat (first | (with_reducible first | exact HB.out | apply below_alloc | apply pw_below_drewN | apply below_drew1) | exact HB.out)⟩
end Go.Proofs.Ytidkniacmcbgiaa.G
end

section
namespace Go.Proofs.Ytidkniacmcbgiaa.G
open Go.RowKit Go.Proofs.YtidkniacmcbgiaaW.PrintWords Go.Proofs.YtidkniacmcbgiaaW.PrintLast Go.Proofs.YtidkniacmcbgiaaW.PrintMore
attribute [local go_sem] max2_int min2_int max_two min_two max_three min_three max_four min_four
set_option linter.unusedVariables false
set_option linter.unusedSimpArgs false
open Go.ChangeShapes Go.WideShapes Go.Deep in
structure Opens {α : Type} (P : Program) (t : TypeId) (d : Kd α) (Wf : α → Prop) : Prop where
  sz : P.cellsOf t = d.sz
  op : ∀ {H : Type} {enc : TypeId × Value → H} {w : World} {base : Nat} {spare : Nat → Bool} {held : Bool} {fuel : Nat} {cs : List Value} {x : DataW H × List MemPlace}, DataW.trod enc P w base spare held fuel t cs = some x → ∃ a : α, d.K w a cs ∧ Wf a
theorem opens_int {P : Program} {t : TypeId} {k : IntKind} (ht : P.underlying t = some (.int k)) (hC : P.cellsOf t = 1) : Opens P t (Kd.int k) (fun n => (Lit.int k n).wf = true) where
  sz := hC
  op := fun h => by
    obtain ⟨n, rfl, _, hw⟩ := DataW.trod_int ht h
    exact ⟨n, rfl, hw⟩
theorem opens_bool {P : Program} {t : TypeId} (ht : P.underlying t = some .bool) (hC : P.cellsOf t = 1) : Opens P t Kd.bool (fun _ => True) where
  sz := hC
  op := fun h => by
    obtain ⟨n, rfl, _⟩ := DataW.trod_bool ht h
    exact ⟨n, rfl, trivial⟩
theorem list_of {α : Type} {Q : Nat → α → Prop} : ∀ n, (∀ i, i < n → ∃ y, Q i y) → ∃ l : List α, l.length = n ∧ ∀ i y, l[i]? = some y → Q i y
  | 0, _ => ⟨[], rfl, fun i y h => by simp at h⟩
  | n + 1, h => by
    obtain ⟨l, hl, hq⟩ := list_of n (fun i hi => h i (by omega))
    obtain ⟨y, hy⟩ := h n (by omega)
    refine ⟨l ++ [y], by simp [hl], fun i z hz => ?_⟩
    rcases Nat.lt_or_ge i l.length with hi | hi
    · rw [List.getElem?_append_left hi] at hz
      exact hq i z hz
    · rw [List.getElem?_append_right hi] at hz
      have : i - l.length = 0 := by
        rcases Nat.eq_zero_or_pos (i - l.length) with h0 | h0
        · exact h0
        · rw [List.getElem?_eq_none (by simp; omega)] at hz
          cases hz
      rw [this] at hz
      have e : y = z := by simpa using hz
      subst e
      have : i = n := by omega
      subst this
      exact hy
theorem opens_slice {α : Type} {P : Program} {t e : TypeId} {d : Kd α} {Wf : α → Prop} (ht : P.underlying t = some (.slice e)) (hC : P.cellsOf t = 1) (he : Opens P e d Wf) : Opens P t (Kd.slice e d) (fun l => l.length ≤ 9223372036854775807 ∧ ∀ x ∈ l, Wf x) where
  sz := hC
  op := fun {H enc w base spare held fuel cs x} h => by
    rcases Go.Deep.open_slice ht h with ⟨rfl, _⟩ | ⟨a, len, cap, m, n, D, Pl, rfl, hb, hl, hm, hmm, _, hi⟩
    · exact ⟨[], ⟨none, 0, rfl, Nat.le_refl _, rfl, by simp, fun h => absurd h (by simp)⟩, by simp, by simp⟩
    · have hlen : len ≤ m := by rw [hmm]; split <;> omega
      obtain ⟨l, hll, hq⟩ := list_of (Q := fun i y => (∃ c, c.length = d.sz ∧ d.K w y c ∧ ∀ j u, c[j]? = some u → w.cell? (a.add (i * d.sz + j)) = some u) ∧ Wf y) len (fun i him => by
        obtain ⟨cs', hc, ht'⟩ := hi i (by omega)
        obtain ⟨y, hK, hW⟩ := he.op ht'
        obtain ⟨_, hcl, hat⟩ := World.cells?_some hc
        refine ⟨y, ⟨cs', d.K_len hK, hK, fun j u hu => ?_⟩, hW⟩
        have hj : j < cs'.length := (List.getElem?_eq_some_iff.1 hu).1
        have h1 := hat j (by rw [he.sz, ← d.K_len hK]; exact hj)
        rw [← he.sz, ← Go.Deep.add_add, h1, hu])
      refine ⟨l, ⟨some a, cap, by rw [hll], by rw [hll]; exact hl, rfl, by rw [hll]; have := hm; unfold maxLen at this; omega, fun _ => ⟨a, rfl, fun j p hj => (hq j p hj).1⟩⟩, by rw [hll]; have := hm; unfold maxLen at this; omega, fun y hy => ?_⟩
      obtain ⟨j, hj, rfl⟩ := List.mem_iff_getElem.1 hy
      exact (hq j _ (List.getElem?_eq_getElem hj)).2
def offs (P : Program) : List TypeId → Nat → Nat
  | [], _ => 0
  | _ :: _, 0 => 0
  | t :: ts, i + 1 => P.cellsOf t + offs P ts i
def OpensF {α : Type} (P : Program) (ts : List TypeId) (d : Kd α) (Wf : α → Prop) : Prop :=
  ∀ {H : Type} {enc : TypeId × Value → H} {w : World} {base : Nat} {spare : Nat → Bool} {held : Bool} {n : Nat} {cs : List Value}, cs.length = d.sz → (∀ i t, ts[i]? = some t → ∃ x, DataW.trod enc P w base spare held n t ((cs.drop (offs P ts i)).take (P.cellsOf t)) = some x) → ∃ a : α, d.K w a cs ∧ Wf a
theorem opensF_one {α : Type} {P : Program} {t : TypeId} {d : Kd α} {Wf : α → Prop} (h : Opens P t d Wf) : OpensF P [t] d Wf := fun {H enc w base spare held n cs} hl hf => by
  obtain ⟨x, hx⟩ := hf 0 t rfl
  simp only [offs, List.drop_zero] at hx
  rw [List.take_of_length_le (by rw [hl, h.sz]; exact Nat.le_refl _)] at hx
  exact h.op hx
theorem opensF_cons {α β : Type} {P : Program} {t : TypeId} {ts : List TypeId} {d : Kd α} {d' : Kd β} {Wf : α → Prop} {Wf' : β → Prop} (h : Opens P t d Wf) (h' : OpensF P ts d' Wf') : OpensF P (t :: ts) (Kd.pair d d') (fun x => Wf x.1 ∧ Wf' x.2) := fun {H enc w base spare held n cs} hl hf => by
  have hl' : cs.length = d.sz + d'.sz := hl
  obtain ⟨x, hx⟩ := hf 0 t rfl
  simp only [offs, List.drop_zero] at hx
  obtain ⟨a, hK, hW⟩ := h.op hx
  obtain ⟨b, hK', hW'⟩ := h' (enc := enc) (w := w) (base := base) (spare := spare) (held := held) (n := n) (cs := cs.drop d.sz) (by rw [List.length_drop, hl']; omega) (fun i t' ht' => by
    obtain ⟨y, hy⟩ := hf (i + 1) t' (by simpa using ht')
    refine ⟨y, ?_⟩
    rw [List.drop_drop]
    simpa only [offs, h.sz] using hy)
  refine ⟨(a, b), ⟨_, _, (List.take_append_drop d.sz cs).symm, ?_, hK'⟩, hW, hW'⟩
  rw [← h.sz]
  exact hK
theorem opens_struct {α β : Type} {P : Program} {t : TypeId} {fs : Array Field} {d : Kd α} {Wf : α → Prop} (f : β → α) (g : α → β) (hfg : ∀ a, f (g a) = a) (ht : P.underlying t = some (.struct fs)) (hC : P.cellsOf t = d.sz)
    (ho : ((List.range fs.size).all fun i => decide ((fs[i]?.map Field.offset) = some (offs P (fs.toList.map Field.type) i))) = true) (h : OpensF P (fs.toList.map Field.type) d Wf) : Opens P t (Kd.iso d f) (fun x => Wf (f x)) where
  sz := hC
  op := fun {H enc w base spare held fuel cs x} hx => by
    obtain ⟨xs, n, _, _, hlen, hxl, hf⟩ := DataW.trod_struct ht hx
    obtain ⟨a, hK, hW⟩ := h (enc := enc) (w := w) (base := base) (spare := spare) (held := held) (n := n) (cs := cs) (by rw [hlen, hC]) (fun i t' ht' => by
      have hi : i < fs.size := by
        have := (List.getElem?_eq_some_iff.1 ht').1
        simpa using this
      have e : fs[i]? = some fs[i] := Array.getElem?_eq_getElem hi
      have et : fs[i].type = t' := by
        rw [List.getElem?_map] at ht'
        have : fs.toList[i]? = some fs[i] := by simp [hi]
        rw [this] at ht'
        simpa using ht'
      have eo := of_decide_eq_true (List.all_eq_true.1 ho i (List.mem_range.2 hi))
      rw [e] at eo
      have eo' : fs[i].offset = offs P (fs.toList.map Field.type) i := by simpa using eo
      have h1 := hf i fs[i] e
      rw [et, eo'] at h1
      exact ⟨_, h1.trans (List.getElem?_eq_getElem (show i < xs.length by omega))⟩)
    exact ⟨g a, by show d.K w (f (g a)) cs; rw [hfg]; exact hK, by show Wf (f (g a)); rw [hfg]; exact hW⟩
theorem op2 : Opens Try.prog 2 (Kd.int .i64) (fun x : Int => (Lit.int .i64 x).wf = true) := opens_int (k := .i64) Try.underlying2 (by kernel_rfl)
theorem op4 : Opens Try.prog 4 Kd.bool (fun x : Bool => True) := opens_bool Try.underlying4 (by kernel_rfl)
theorem op75 : Opens Try.prog 75 k75 (fun x : S75 => (Lit.int .i64 x.f0).wf = true ∧ (Lit.int .i64 x.f1).wf = true ∧ True) := opens_struct (fun x : S75 => (x.f0, x.f1, x.f2)) (fun a => ⟨a.1, a.2.1, a.2.2⟩) (fun _ => rfl) Try.underlying75 (by kernel_rfl) (by kernel_rfl) (opensF_cons op2 (opensF_cons op2 (opensF_one op4)))
theorem op22 : Opens Try.prog 22 (Kd.slice 75 k75) (fun x : List (S75) => (x.length ≤ 9223372036854775807 ∧ ∀ x_ ∈ x, (Lit.int .i64 x_.f0).wf = true ∧ (Lit.int .i64 x_.f1).wf = true ∧ True)) := opens_slice Try.underlying22 (by kernel_rfl) op75
theorem op56 : Opens Try.prog 56 (Kd.slice 22 (Kd.slice 75 k75)) (fun x : List (List (S75)) => (x.length ≤ 9223372036854775807 ∧ ∀ x_ ∈ x, (x_.length ≤ 9223372036854775807 ∧ ∀ x__ ∈ x_, (Lit.int .i64 x__.f0).wf = true ∧ (Lit.int .i64 x__.f1).wf = true ∧ True))) := opens_slice Try.underlying56 (by kernel_rfl) op22
end Go.Proofs.Ytidkniacmcbgiaa.G
end

section
namespace Go.Proofs.Ytidkniacmcbgiaa.G.Pure
open Go.RowKit Go.Proofs.Ytidkniacmcbgiaa.G Go.Proofs.YtidkniacmcbgiaaW.PrintWords Go.Proofs.YtidkniacmcbgiaaW.PrintLast Go.Proofs.YtidkniacmcbgiaaW.PrintMore
set_option linter.unusedVariables false
set_option linter.unusedSimpArgs false
theorem w64 {n : Int} (h0 : -9223372036854775808 ≤ n) (h1 : n ≤ 9223372036854775807) : wrap64 n = n := by
  unfold wrap64
  omega
theorem loop_inv {σ γ : Type} (L : Nat → σ → Option γ) (n : Nat) (I : Nat → σ → Prop) (R : γ → Prop)
    (hs : ∀ k i s, i < n → I i s → (∃ s', I (i + 1) s' ∧ L (k + 1) s = L k s') ∨ (∃ r, R r ∧ L (k + 1) s = some r))
    (he : ∀ k s, I n s → ∃ r, R r ∧ L (k + 1) s = some r) : ∀ k s, I 0 s → n < k → ∃ r, R r ∧ L k s = some r := by
  have go : ∀ d i k s, i + d = n → I i s → d < k → ∃ r, R r ∧ L k s = some r := by
    intro d
    induction d with
    | zero =>
      intro i k s hi hI hk
      obtain ⟨k, rfl⟩ : ∃ m, k = m + 1 := ⟨k - 1, by omega⟩
      obtain rfl : i = n := by omega
      exact he k s hI
    | succ d ih =>
      intro i k s hi hI hk
      obtain ⟨k, rfl⟩ : ∃ m, k = m + 1 := ⟨k - 1, by omega⟩
      rcases hs k i s (by omega) hI with ⟨s', hI', h⟩ | h
      · rw [h]
        exact ih (i + 1) k s' (by omega) hI' (by omega)
      · exact h
  intro k s hI hk
  exact go n 0 k s (by omega) hI hk
theorem take_set_succ {α : Type} {l : List α} {i : Nat} (h : i < l.length) (v : α) : (l.set i v).take (i + 1) = l.take i ++ [v] := by
  rw [List.take_succ_eq_append_getElem (by simpa using h)]
  simp [List.take_set_of_le]
theorem rd_nat {l : List Int} {i : Nat} (h : i < l.length) : rd l (i : Int) = l[i] := by
  simp [rd, List.getD_eq_getElem?_getD, List.getElem?_eq_getElem h]
end Go.Proofs.Ytidkniacmcbgiaa.G.Pure
end

section
namespace Go.Proofs.Ytidkniacmcbgiaa.G.Pure
open Go.RowKit Go.Proofs.Ytidkniacmcbgiaa.G Go.Proofs.YtidkniacmcbgiaaW.PrintWords Go.Proofs.YtidkniacmcbgiaaW.PrintLast Go.Proofs.YtidkniacmcbgiaaW.PrintMore
set_option linter.unusedVariables false
set_option linter.unusedSimpArgs false
theorem loop_acc {β γ : Type} (L : Nat → List β → Int → Option γ) (n : Nat) (g : Nat → List β) (R : List β → γ) (hb : ∀ i, i < n → (g i).length ≤ 1)
    (hs : ∀ k i acc, i < n → acc.length ≤ i → L (k + 1) acc (i : Int) = L k (acc ++ g i) ((i + 1 : Nat) : Int))
    (he : ∀ k acc, acc.length ≤ n → L (k + 1) acc (n : Int) = some (R acc)) : ∀ k, n < k → L k [] 0 = some (R ((List.range n).flatMap g)) := by
  intro k hk
  obtain ⟨r, hr, h⟩ := loop_inv (fun k (s : List β × Int) => L k s.1 s.2) n (fun i s => s.2 = (i : Int) ∧ s.1 = (List.range i).flatMap g ∧ s.1.length ≤ i) (fun r => r = R ((List.range n).flatMap g))
    (fun k i s hi ⟨h1, h2, h3⟩ => by
      obtain ⟨acc, x⟩ := s
      simp only at h1 h2 h3
      subst h1
      refine .inl ⟨(acc ++ g i, ((i + 1 : Nat) : Int)), ⟨rfl, ?_, ?_⟩, hs k i acc hi h3⟩
      · rw [h2, List.range_succ, List.flatMap_append]
        simp
      · have := hb i hi
        simp only [List.length_append]
        omega)
    (fun k s ⟨h1, h2, h3⟩ => by
      obtain ⟨acc, x⟩ := s
      simp only at h1 h2 h3
      subst h1
      exact ⟨_, by rw [h2], he k acc h3⟩) k ([], 0) ⟨rfl, rfl, Nat.zero_le _⟩ hk
  subst hr
  exact h
end Go.Proofs.Ytidkniacmcbgiaa.G.Pure
end

section
namespace Go.Proofs.Ytidkniacmcbgiaa.G.Pure
open Go.RowKit Go.Proofs.Ytidkniacmcbgiaa.G Go.Proofs.YtidkniacmcbgiaaW.PrintWords Go.Proofs.YtidkniacmcbgiaaW.PrintLast Go.Proofs.YtidkniacmcbgiaaW.PrintMore
set_option linter.unusedVariables false
set_option linter.unusedSimpArgs false
abbrev En := S73
def entryOf (x : S75) : En := ⟨x.f0, x.f1, x.f2⟩
theorem szLog_eq (l : List (S75)) (a : Int) (h0 : 0 ≤ a) (h1 : a ≤ 1048576) (hl : l.length ≤ 9223372036854775807) : laws_szLog.f l a = some (if a - l.length < 0 then -1 else a - l.length) := by
  unfold laws_szLog.f
  rw [w64 (by omega) (by omega)]
  split <;> rfl
theorem rd_laws_Entry {l : List (S75)} {i : Nat} (h : i < l.length) : rd_T75 l (i : Int) = l[i] := by
  simp [rd_T75, List.getD_eq_getElem?_getD, List.getElem?_eq_getElem h]
theorem toLog_eq (k : Nat) (l : List (S75)) (hl : l.length ≤ 1048576) (hk : l.length < k) : laws_toLog.f k l = some (l.map entryOf) := by
  unfold laws_toLog.f
  rw [if_pos (by omega), if_pos (by omega)]
  obtain ⟨r, hr, h⟩ := loop_inv (fun k (s : List En × Int) => laws_toLog.l0 k l s.1 s.2) l.length (fun i s => s.2 = (i : Int) ∧ s.1.length = l.length ∧ s.1.take i = (l.map entryOf).take i) (fun r => r = l.map entryOf)
    (fun k i s hi ⟨h1, h2, h3⟩ => by
      obtain ⟨acc, x⟩ := s
      simp only at h1 h2 h3
      subst h1
      refine .inl ⟨(acc.set i (entryOf l[i]), ((i + 1 : Nat) : Int)), ⟨rfl, by simpa using h2, ?_⟩, ?_⟩
      · rw [take_set_succ (by omega), h3, List.take_succ_eq_append_getElem (by simpa using hi)]
        simp
      · simp only [laws_toLog.l0]
        rw [if_pos (by omega), if_pos (by omega), rd_laws_Entry hi]
        simp only [laws_toEntry.f, Option.bind_some]
        rw [if_pos (by omega), w64 (by omega) (by omega)]
        rfl)
    (fun k s ⟨h1, h2, h3⟩ => by
      obtain ⟨acc, x⟩ := s
      simp only at h1 h2 h3
      subst h1
      refine ⟨acc, ?_, ?_⟩
      · rw [List.take_of_length_le (by omega), List.take_of_length_le (by simp)] at h3
        exact h3
      · simp only [laws_toLog.l0]
        rw [if_neg (by omega)]) k (List.replicate l.length z73, 0) ⟨rfl, by simp, by simp⟩ hk
  subst hr
  simpa using h
theorem eqEntry_self (a : En) : laws_eqEntry.f a.f0 a.f1 a.f2 a.f0 a.f1 a.f2 = some true := by
  simp [laws_eqEntry.f]
theorem eqLog_self (k : Nat) (a : List En) (hl : a.length ≤ 1048576) (hk : a.length < k) : laws_eqLog.f k a a = some true := by
  unfold laws_eqLog.f
  rw [if_pos rfl]
  obtain ⟨r, hr, h⟩ := loop_inv (fun k (s : Int) => laws_eqLog.l0 k a a s) a.length (fun i s => s = (i : Int)) (fun r => r = true)
    (fun k i s hi h1 => by
      subst h1
      refine .inl ⟨((i + 1 : Nat) : Int), rfl, ?_⟩
      simp only [laws_eqLog.l0]
      rw [if_pos (by omega), if_pos (by omega), if_pos (by omega), eqEntry_self]
      simp only [Option.bind_some, if_true]
      rw [w64 (by omega) (by omega)]
      rfl)
    (fun k s h1 => by
      subst h1
      refine ⟨true, rfl, ?_⟩
      simp only [laws_eqLog.l0]
      rw [if_neg (by omega)]) k 0 rfl hk
  subst hr
  exact h
end Go.Proofs.Ytidkniacmcbgiaa.G.Pure
end

section
namespace Go.Proofs.Ytidkniacmcbgiaa.G.Pure
open Go.RowKit Go.Proofs.Ytidkniacmcbgiaa.G Go.Proofs.YtidkniacmcbgiaaW.PrintWords Go.Proofs.YtidkniacmcbgiaaW.PrintLast Go.Proofs.YtidkniacmcbgiaaW.PrintMore
set_option linter.unusedVariables false
set_option linter.unusedSimpArgs false
theorem loop_inv2 {σ γ : Type} (L : Nat → σ → Option γ) (n K0 : Nat) (I : Nat → σ → Prop) (R : γ → Prop)
    (hs : ∀ k i s, i < n → K0 ≤ k → I i s → (∃ s', I (i + 1) s' ∧ L (k + 1) s = L k s') ∨ (∃ r, R r ∧ L (k + 1) s = some r))
    (he : ∀ k s, K0 ≤ k → I n s → ∃ r, R r ∧ L (k + 1) s = some r) : ∀ k s, I 0 s → n + K0 < k → ∃ r, R r ∧ L k s = some r := by
  have go : ∀ d i k s, i + d = n → I i s → d + K0 < k → ∃ r, R r ∧ L k s = some r := by
    intro d
    induction d with
    | zero =>
      intro i k s hi hI hk
      obtain ⟨k, rfl⟩ : ∃ m, k = m + 1 := ⟨k - 1, by omega⟩
      obtain rfl : i = n := by omega
      exact he k s (by omega) hI
    | succ d ih =>
      intro i k s hi hI hk
      obtain ⟨k, rfl⟩ : ∃ m, k = m + 1 := ⟨k - 1, by omega⟩
      rcases hs k i s (by omega) (by omega) hI with ⟨s', hI', h⟩ | h
      · rw [h]
        exact ih (i + 1) k s' (by omega) hI' (by omega)
      · exact h
  intro k s hI hk
  exact go n 0 k s (by omega) hI (by omega)
def atE (l : List En) (i : Nat) (out : List Int) : Int := impl_Log_up.at l (rd_T73 l (i : Int)) out
def upsStep (l : List En) (i : Nat) (out : List Int) : Option (List Int) :=
  if decide (atE l i out < 0) = (rd_T73 l (i : Int)).f2 then none else if (rd_T73 l (i : Int)).f2 = true then some (out.eraseIdx (atE l i out).toNat) else some (out ++ [(i : Int)])
def ups (l : List En) : Nat → Option (List Int)
  | 0 => some []
  | n + 1 => (ups l n).bind (upsStep l n)
def lastT (l : List En) : Nat → Int
  | 0 => 0
  | n + 1 => (rd_T73 l (n : Int)).f0
def gd (l : List En) : Nat → Bool
  | 0 => true
  | n + 1 => gd l n && impl_Log_up.good (lastT l n) (rd_T73 l (n : Int))
theorem to_eq (l : List En) (n : Nat) : impl_Log_up.to l n = if gd l n = true then (ups l n).map (fun o => (lastT l n, o)) else none := by
  induction n with
  | zero => rfl
  | succ n ih =>
    rw [impl_Log_up.to, ih, ups, gd]
    cases hg : gd l n with
    | false => simp
    | true =>
      cases hu : ups l n with
      | none => simp
      | some o =>
        simp only [if_true, Option.map_some, Option.bind_some, Bool.true_and]
        unfold impl_Log_up.step upsStep atE
        cases hgd : impl_Log_up.good (lastT l n) (rd_T73 l (n : Int)) with
        | false => simp [hgd]
        | true =>
          simp only [hgd, Bool.true_eq_false, if_false, if_true]
          split
          · rfl
          · split <;> rfl
theorem gd_false {l : List En} {i n : Nat} (h : gd l i = false) (hi : i ≤ n) : gd l n = false := by
  induction n with
  | zero => obtain rfl : i = 0 := by omega
            exact h
  | succ n ih =>
    rcases Nat.lt_or_ge i (n + 1) with h1 | h1
    · rw [gd, ih (by omega)]
      rfl
    · obtain rfl : i = n + 1 := by omega
      exact h
theorem ups_none {l : List En} {i n : Nat} (h : ups l i = none) (hi : i ≤ n) : ups l n = none := by
  induction n with
  | zero => obtain rfl : i = 0 := by omega
            exact h
  | succ n ih =>
    rcases Nat.lt_or_ge i (n + 1) with h1 | h1
    · rw [ups, ih (by omega)]
      rfl
    · obtain rfl : i = n + 1 := by omega
      exact h
theorem idxP_none {α : Type} {p : α → Bool} {l : List α} (h : idxP p l < 0) : ∀ x ∈ l, p x = false := by
  have := idxP_nonneg p l
  rw [decide_eq_false (by omega)] at this
  intro x hx
  exact List.any_eq_false.1 this.symm x hx |> (by simpa using ·)
theorem ups_ok {l : List En} {n : Nat} {out : List Int} (h : ups l n = some out) : out.length ≤ n ∧ (∀ x ∈ out, 0 ≤ x ∧ x < (n : Int)) ∧ out.Pairwise (fun a b => (rd_T73 l a).f1 ≠ (rd_T73 l b).f1) := by
  induction n generalizing out with
  | zero =>
    cases h
    simp
  | succ n ih =>
    rw [ups] at h
    obtain ⟨s0, h0, h1⟩ := Option.bind_eq_some_iff.1 h
    obtain ⟨i1, i2, i3⟩ := ih h0
    unfold upsStep at h1
    split at h1
    · cases h1
    · rename_i hne
      split at h1
      · cases h1
        refine ⟨?_, fun x hx => ?_, i3.sublist (List.eraseIdx_sublist ..)⟩
        · have := List.length_eraseIdx_le (l := s0) (i := (atE l n s0).toNat)
          omega
        · have := i2 x (List.mem_of_mem_eraseIdx hx)
          omega
      · rename_i hf
        cases h1
        refine ⟨by simp; omega, fun x hx => ?_, ?_⟩
        · simp only [List.mem_append, List.mem_singleton] at hx
          rcases hx with hx | rfl
          · have := i2 x hx
            omega
          · omega
        · rw [List.pairwise_append]
          refine ⟨i3, by simp, fun a ha b hb => ?_⟩
          simp only [List.mem_singleton] at hb
          subst hb
          have hk : atE l n s0 < 0 := by
            apply Classical.byContradiction
            intro hh
            rw [decide_eq_false hh] at hne
            simp only [Bool.not_eq_true] at hf
            exact hne hf.symm
          have := idxP_none hk a ha
          simpa using this
theorem idxP_take {p : Int → Bool} {out : List Int} {j : Nat} (hj : j < out.length) (hu : ∀ a b (ha : a < out.length) (hb : b < out.length), a < b → p out[a] = true → p out[b] = true → False) : idxP p (out.take (j + 1)) = if p out[j] = true then (j : Int) else idxP p (out.take j) := by
  split
  · rename_i h
    refine idxP_hit (k := j) (y := out[j]) (by rw [List.getElem?_take_of_lt (by omega)]; exact List.getElem?_eq_getElem hj) h (fun a x ha hx => ?_)
    rw [List.getElem?_take_of_lt (by omega)] at hx
    obtain ⟨h1, rfl⟩ := List.getElem?_eq_some_iff.1 hx
    cases hp : p out[a] with
    | false => rfl
    | true => exact (hu a j h1 hj ha hp h).elim
  · rename_i h
    simp only [Bool.not_eq_true] at h
    unfold idxP
    rw [List.take_succ_eq_append_getElem hj, List.findIdx?_append]
    cases e : (out.take j).findIdx? p with
    | some i => simp
    | none => simp [h]
set_option maxHeartbeats 400000 in
theorem specUp_inner {l : List En} {n : Int} {out : List Int} {i : Nat} (hi : i < l.length) (hl : l.length ≤ 60) (ho : out.length ≤ i ∧ (∀ x ∈ out, 0 ≤ x ∧ x < (i : Int)) ∧ out.Pairwise (fun a b => (rd_T73 l a).f1 ≠ (rd_T73 l b).f1)) :
    ∀ (d j K : Nat), j + d = out.length → spec_l07Up.l1 (K + d + 1) l n out (i : Int) (idxP (fun m => (rd_T73 l m).f1 == (rd_T73 l (i : Int)).f1) (out.take j)) (j : Int) = spec_l07Up.l1 (K + 1) l n out (i : Int) (atE l i out) (out.length : Int) := by
  intro d
  induction d with
  | zero =>
    intro j K hj
    obtain rfl : j = out.length := by omega
    rw [List.take_length]
    rfl
  | succ d ih =>
    intro j K hj
    have hjo : j < out.length := by omega
    obtain ⟨h1, h2, h3⟩ := ho
    have hm := h2 out[j] (List.getElem_mem hjo)
    rw [← ih (j + 1) K (by omega), show K + (d + 1) + 1 = (K + d + 1) + 1 by omega]
    conv => lhs; unfold spec_l07Up.l1
    rw [if_pos (by omega), if_pos (by omega), rd_nat hjo, if_pos (by omega), if_pos (by omega), if_pos (by omega), if_pos (by omega), w64 (by omega) (by omega), idxP_take hjo (fun a b ha hb hab pa pb => ?_)]
    · by_cases hq : (rd_T73 l out[j]).f1 = (rd_T73 l (i : Int)).f1
      · rw [if_pos hq, if_pos (by simpa using hq)]
        rfl
      · rw [if_neg hq, if_neg (by simpa using hq)]
        rfl
    · have := List.pairwise_iff_getElem.1 h3 a b ha hb hab
      simp only [beq_iff_eq] at pa pb
      exact this (pa.trans pb.symm)
set_option maxHeartbeats 1000000 in
theorem specUp_outer {l : List En} {n : Nat} (hn : n ≤ l.length) (hl : l.length ≤ 60) : ∀ (d i : Nat) (out : List Int) (K : Nat), i + d = n → ups l i = some out → 70 * (d + 1) ≤ K → spec_l07Up.l0 K l (n : Int) out (i : Int) = some (match ups l n with | some o => (o, true) | none => ([], false)) := by
  intro d
  induction d with
  | zero =>
    intro i out K hi hu hK
    obtain ⟨K, rfl⟩ : ∃ m, K = m + 1 := ⟨K - 1, by omega⟩
    obtain rfl : i = n := by omega
    simp only [spec_l07Up.l0]
    rw [if_neg (by omega), hu]
  | succ d ih =>
    intro i out K hi hu hK
    have ho := ups_ok hu
    obtain ⟨h1, h2, h3⟩ := ho
    obtain ⟨K, rfl⟩ : ∃ m, K = m + out.length + 2 := ⟨K - out.length - 2, by omega⟩
    have hK2 : 70 * (d + 1) ≤ K := by omega
    have hi2 : i + 1 + d = n := by omega
    have hsucc : ((i + 1 : Nat) : Int) = (i : Int) + 1 := by omega
    simp only [spec_l07Up.l0]
    rw [if_pos (by omega)]
    have e := specUp_inner (n := (n : Int)) (l := l) (out := out) (i := i) (by omega) hl ⟨h1, h2, h3⟩ out.length 0 K (by omega)
    rw [show idxP (fun m => (rd_T73 l m).f1 == (rd_T73 l (i : Int)).f1) (out.take 0) = -1 from rfl] at e
    rw [show ((0 : Nat) : Int) = 0 from rfl] at e
    rw [e]
    have hlt := impl_Log_up.idx_lt (fun m => (rd_T73 l m).f1 == (rd_T73 l (i : Int)).f1) out
    have hs : ups l (i + 1) = upsStep l i out := by rw [ups, hu]; rfl
    have hat : idxP (fun m => (rd_T73 l m).f1 == (rd_T73 l (i : Int)).f1) out = atE l i out := rfl
    rw [hat] at hlt
    conv => lhs; unfold spec_l07Up.l1
    rw [if_neg (by omega), if_pos (by omega), if_pos (by omega)]
    unfold upsStep at hs
    by_cases hneg : atE l i out < 0
    · rw [decide_eq_true hneg] at hs
      rw [show decide (atE l i out ≥ 0) = false from decide_eq_false (by omega)]
      cases hf : (rd_T73 l (i : Int)).f2 with
      | true =>
        rw [hf, if_pos rfl] at hs
        rw [if_pos (by rfl), ups_none hs (by omega)]
      | false =>
        rw [hf, if_neg (by simp), if_neg (by simp)] at hs
        rw [if_neg (by simp), if_pos hneg, if_pos (by omega), w64 (by omega) (by omega)]
        have e2 := ih (i + 1) _ K hi2 hs hK2
        rw [hsucc] at e2
        rw [e2]
    · rw [decide_eq_false hneg] at hs
      rw [show decide (atE l i out ≥ 0) = true from decide_eq_true (by omega)]
      cases hf : (rd_T73 l (i : Int)).f2 with
      | false =>
        rw [hf, if_pos rfl] at hs
        rw [if_pos (by rfl), ups_none hs (by omega)]
      | true =>
        rw [hf, if_neg (by simp), if_pos rfl] at hs
        rw [if_neg (by simp), if_neg hneg]
        simp only [Option.bind_some, List.nil_append]
        obtain ⟨q, hq⟩ : ∃ q : Nat, atE l i out = (q : Int) := ⟨(atE l i out).toNat, by omega⟩
        rw [hq] at hs hlt ⊢
        rw [if_pos (by omega), if_pos (by omega), if_pos (by simp; omega), if_pos (by rw [w64 (by omega) (by omega)]; omega), w64 (n := (q : Int) + 1) (by omega) (by omega), if_pos (by omega), if_pos (by simp; omega), w64 (n := (i : Int) + 1) (by omega) (by omega)]
        rw [Int.toNat_natCast, show ((q : Int) + 1).toNat = q + 1 by omega, ← List.eraseIdx_eq_take_drop_succ]
        have e2 := ih (i + 1) (out.eraseIdx q) K hi2 (by rw [hs, Int.toNat_natCast]) hK2
        rw [hsucc] at e2
        rw [e2]
theorem specUp_eq {l : List En} {n K : Nat} (hn : n ≤ l.length) (hl : l.length ≤ 60) (hK : 5000 < K) : spec_l07Up.f K l (n : Int) = some (match ups l n with | some o => (o, true) | none => ([], false)) := by
  unfold spec_l07Up.f
  exact specUp_outer hn hl n 0 [] K (by omega) rfl (by omega)
def validG (l : List En) : Bool := decide (l.length ≤ 60) && gd l l.length && (ups l l.length).isSome
theorem implValid_log {l : List En} (hl : l.length ≤ 1048576) : impl_ValidLog.f l = some (validG l) := by
  unfold impl_ValidLog.f impl_Log_up.f validG
  rw [if_pos hl, to_eq]
  cases hg : gd l l.length with
  | false => simp
  | true =>
    cases hu : ups l l.length with
    | none => simp
    | some o => simp; omega
theorem in_log (n lo hi : Int) : spec_l00In.f n lo hi = some (decide (lo ≤ n) && decide (n ≤ hi)) := by
  unfold spec_l00In.f
  by_cases h : lo ≤ n
  · rw [if_pos h, decide_eq_true h]
    rfl
  · rw [if_neg h, decide_eq_false h]
    rfl
theorem specOk_log {k : Nat} {l : List En} (hk : 6000 < k) : spec_l07Ok.f k l = some (validG l) := by
  unfold spec_l07Ok.f
  by_cases hl : l.length ≤ 60
  · rw [if_neg (by omega)]
    obtain ⟨r, hr, h⟩ := loop_inv2 (fun k (s : Int × Int) => spec_l07Ok.l0 k l s.1 s.2) l.length 5001 (fun i s => s.2 = (i : Int) ∧ s.1 = lastT l i ∧ gd l i = true) (fun r => r = validG l)
      (fun k i s hi hk ⟨h1, h2, h3⟩ => by
        obtain ⟨a, x⟩ := s
        simp only at h1 h2 h3
        subst h1 h2
        simp only [spec_l07Ok.l0]
        rw [if_pos (by omega), if_pos (by omega), in_log]
        simp only [Option.bind_some]
        have hg : gd l (i + 1) = impl_Log_up.good (lastT l i) (rd_T73 l (i : Int)) := by rw [gd, h3]; rfl
        unfold impl_Log_up.good at hg
        have hbad : gd l (i + 1) = false → false = validG l := fun h => by
          unfold validG
          rw [gd_false h (by omega)]
          simp
        cases hb1 : (decide (lastT l i ≤ (rd_T73 l (i : Int)).f0) && decide ((rd_T73 l (i : Int)).f0 ≤ 100000)) with
        | false =>
          rw [hb1] at hg
          exact .inr ⟨false, hbad hg, by simp⟩
        | true =>
          rw [hb1] at hg
          rw [if_pos rfl, in_log]
          simp only [Option.bind_some]
          cases hb2 : (decide (0 ≤ (rd_T73 l (i : Int)).f1) && decide ((rd_T73 l (i : Int)).f1 ≤ 9999)) with
          | false =>
            rw [hb2] at hg
            exact .inr ⟨false, hbad hg, by simp⟩
          | true =>
            rw [hb2] at hg
            refine .inl ⟨((rd_T73 l (i : Int)).f0, ((i + 1 : Nat) : Int)), ⟨rfl, rfl, hg⟩, ?_⟩
            rw [if_pos rfl, w64 (by omega) (by omega)]
            rfl)
      (fun k s hk ⟨h1, h2, h3⟩ => by
        obtain ⟨a, x⟩ := s
        simp only at h1 h2 h3
        subst h1 h2
        refine ⟨validG l, rfl, ?_⟩
        simp only [spec_l07Ok.l0]
        rw [if_neg (by omega), specUp_eq (Nat.le_refl _) hl (by omega)]
        unfold validG
        rw [h3]
        cases ups l l.length <;> simp [hl]) k (0, 0) ⟨rfl, rfl, rfl⟩ (by omega)
    subst hr
    exact h
  · rw [if_pos (by omega)]
    unfold validG
    simp [hl]
end Go.Proofs.Ytidkniacmcbgiaa.G.Pure
end

section
namespace Go.Proofs.Ytidkniacmcbgiaa.G.Pure
open Go.RowKit Go.Proofs.Ytidkniacmcbgiaa.G Go.Proofs.YtidkniacmcbgiaaW.PrintWords Go.Proofs.YtidkniacmcbgiaaW.PrintLast Go.Proofs.YtidkniacmcbgiaaW.PrintMore
set_option linter.unusedVariables false
set_option linter.unusedSimpArgs false
def fitC (e f : En) : Bool := decide (e.f2 = f.f2)
def costC (e f : En) : Int := if e.f1 = f.f1 then 0 else 1
theorem costC_b (e f : En) : 0 ≤ costC e f ∧ costC e f ≤ 1 := by
  unfold costC
  split <;> omega
theorem stepFaults_eq (e f : En) : impl_stepFaults.f e.f0 e.f1 e.f2 f.f0 f.f1 f.f2 = some (if fitC e f = true then (costC e f, true) else (1, false)) := by
  unfold impl_stepFaults.f impl_Entry_agree.f fitC costC
  by_cases h : e.f1 = f.f1
  · rw [if_pos h, if_pos h]
    cases e.f2 <;> cases f.f2 <;> rfl
  · rw [if_neg h, if_neg h]
    cases e.f2 <;> cases f.f2 <;> rfl
theorem cost_eq (e f : En) : spec_l07Cost.f e.f0 e.f1 e.f2 f.f0 f.f1 f.f2 = some (if fitC e f = true then costC e f else -1) := by
  unfold spec_l07Cost.f fitC costC
  by_cases h : e.f1 = f.f1
  · rw [if_pos h, if_pos h]
    cases e.f2 <;> cases f.f2 <;> rfl
  · rw [if_neg h, if_neg h]
    cases e.f2 <;> cases f.f2 <;> rfl
end Go.Proofs.Ytidkniacmcbgiaa.G.Pure
end

section
namespace Go.Proofs.Ytidkniacmcbgiaa.G.Pure
open Go.RowKit Go.Proofs.Ytidkniacmcbgiaa.G Go.Proofs.YtidkniacmcbgiaaW.PrintWords Go.Proofs.YtidkniacmcbgiaaW.PrintLast Go.Proofs.YtidkniacmcbgiaaW.PrintMore
set_option linter.unusedVariables false
set_option linter.unusedSimpArgs false
def rowOf (n : Nat) (V : Nat → Int) : List Int := (List.range (n + 1)).map V
def tabOf (m n : Nat) (V : Nat → Nat → Int) : List (List Int) := (List.range (m + 1)).map fun i => rowOf n (V i)
def RowSt (n : Nat) (V : Nat → Int) (q : Nat) (r : List Int) : Prop := r.length = n + 1 ∧ ∀ k, q ≤ k → k ≤ n → r[k]? = some (V k)
def TabSt (m n : Nat) (V : Nat → Nat → Int) (P : List Int → Prop) (i q : Nat) (T : List (List Int)) : Prop :=
  T.length = m + 1 ∧ (∀ i', i < i' → i' ≤ m → RowSt n (V i') 0 (T.getD i' [])) ∧ RowSt n (V i) q (T.getD i []) ∧ ∀ i', i' < i → P (T.getD i' [])
theorem rowSt_eq {n : Nat} {V : Nat → Int} {r : List Int} (h : RowSt n V 0 r) : r = rowOf n V := by
  obtain ⟨h1, h2⟩ := h
  apply List.ext_getElem?
  intro k
  unfold rowOf
  rcases Nat.lt_or_ge k (n + 1) with hk | hk
  · rw [h2 k (Nat.zero_le _) (by omega)]
    simp [List.getElem?_range hk]
  · rw [List.getElem?_eq_none (by omega), List.getElem?_eq_none (by simp; omega)]
theorem rowSt_get {n : Nat} {V : Nat → Int} {q : Nat} {r : List Int} (h : RowSt n V q r) {k : Nat} (hq : q ≤ k) (hk : k ≤ n) : rd r (k : Int) = V k := by
  have := h.2 k hq hk
  simp [rd, List.getD_eq_getElem?_getD, this]
theorem rowSt_set {n : Nat} {V : Nat → Int} {q : Nat} {r : List Int} (h : RowSt n V (q + 1) r) (hq : q ≤ n) : RowSt n V q (r.set q (V q)) := by
  refine ⟨by rw [List.length_set]; exact h.1, fun k hk hn => ?_⟩
  by_cases e : q = k
  · subst e
    rw [List.getElem?_set_self (by rw [h.1]; omega)]
  · rw [List.getElem?_set_ne e]
    exact h.2 k (by omega) hn
theorem getD_set_self {T : List (List Int)} {i : Nat} {r : List Int} (h : i < T.length) : (T.set i r).getD i [] = r := by
  rw [List.getD_eq_getElem?_getD, List.getElem?_set_self h]
  rfl
theorem getD_set_ne {T : List (List Int)} {i j : Nat} {r : List Int} (h : i ≠ j) : (T.set i r).getD j [] = T.getD j [] := by
  rw [List.getD_eq_getElem?_getD, List.getElem?_set_ne h, List.getD_eq_getElem?_getD]
theorem tabSt_set {m n : Nat} {V : Nat → Nat → Int} {P : List Int → Prop} {i q : Nat} {T : List (List Int)} (h : TabSt m n V P i (q + 1) T) (hi : i ≤ m) (hq : q ≤ n) : TabSt m n V P i q (T.set i ((T.getD i []).set q (V i q))) := by
  obtain ⟨h1, h2, h3, h4⟩ := h
  refine ⟨by rw [List.length_set]; exact h1, fun i' hi' hm => ?_, ?_, fun i' hi' => ?_⟩
  · rw [getD_set_ne (by omega)]
    exact h2 i' hi' hm
  · rw [getD_set_self (by omega)]
    exact rowSt_set h3 hq
  · rw [getD_set_ne (by omega)]
    exact h4 i' hi'
theorem tab_eq {m n : Nat} {V : Nat → Nat → Int} {T : List (List Int)} (h1 : T.length = m + 1) (h2 : ∀ i', i' ≤ m → RowSt n (V i') 0 (T.getD i' [])) : T = tabOf m n V := by
  apply List.ext_getElem?
  intro i
  unfold tabOf
  rcases Nat.lt_or_ge i (m + 1) with hi | hi
  · have := rowSt_eq (h2 i (by omega))
    rw [List.getElem?_eq_getElem (by omega)]
    rw [List.getD_eq_getElem?_getD, List.getElem?_eq_getElem (by omega)] at this
    simp only [Option.getD_some] at this
    rw [this]
    simp [List.getElem?_range hi]
  · rw [List.getElem?_eq_none (by omega), List.getElem?_eq_none (by simp; omega)]
theorem tab_row {m n : Nat} {V : Nat → Nat → Int} {i : Nat} (hi : i ≤ m) : rd_L6 (tabOf m n V) (i : Int) = rowOf n (V i) := by
  show (tabOf m n V).getD i [] = _
  unfold tabOf
  rw [List.getD_eq_getElem?_getD, List.getElem?_map, List.getElem?_range (by omega)]
  rfl
theorem row_at {n : Nat} {V : Nat → Int} {k : Nat} (hk : k ≤ n) : rd (rowOf n V) (k : Int) = V k := by
  unfold rowOf
  simp [rd, List.getD_eq_getElem?_getD, List.getElem?_range (by omega : k < n + 1)]
theorem row_len {n : Nat} {V : Nat → Int} : (rowOf n V).length = n + 1 := by simp [rowOf]
theorem tab_len {m n : Nat} {V : Nat → Nat → Int} : (tabOf m n V).length = m + 1 := by simp [tabOf]
theorem tab_loop {γ : Type} (m n c : Nat) (V : Nat → Nat → Int) (P : List Int → Prop) (L0 : Nat → List (List Int) → Int → Option γ) (L1 : Nat → List (List Int) → Int → Int → Option γ) (R : List (List Int) → γ) (hm : m ≤ 60) (hn : n ≤ 60) (hc : c ≤ 20)
    (init : ∀ K T i, i ≤ m → T.length = m + 1 → P (T.getD i []) → ∃ r : List Int, r.length = n + 1 ∧ L0 (K + 1) T (i : Int) = L1 K (T.set i r) (i : Int) (n : Int))
    (step : ∀ K T i q, i ≤ m → q ≤ n → TabSt m n V P i (q + 1) T → L1 (K + c) T (i : Int) (q : Int) = L1 K (T.set i ((T.getD i []).set q (V i q))) (i : Int) ((q : Int) - 1))
    (out : ∀ K T i, i ≤ m → L1 (K + 1) T (i : Int) (-1) = L0 K T ((i : Int) - 1))
    (fin : ∀ K T, L0 (K + 1) T (-1) = some (R T)) (T0 : List (List Int)) (h0 : T0.length = m + 1) (hP : ∀ i, i ≤ m → P (T0.getD i [])) :
    ∀ K, 100000 ≤ K → L0 K T0 (m : Int) = some (R (tabOf m n V)) := by
  have inner : ∀ q K T i, i ≤ m → q ≤ n + 1 → TabSt m n V P i q T → ∃ T', TabSt m n V P i 0 T' ∧ L1 (K + q * c) T (i : Int) ((q : Int) - 1) = L1 K T' (i : Int) (-1) := by
    intro q
    induction q with
    | zero => exact fun K T i hi hq h => ⟨T, h, by simp⟩
    | succ q ih =>
      intro K T i hi hq h
      obtain ⟨T', h1, h2⟩ := ih K _ i hi (by omega) (tabSt_set h hi (by omega))
      refine ⟨T', h1, ?_⟩
      rw [← h2, ← step (K + q * c) T i q hi (by omega) h, Nat.succ_mul, Nat.add_assoc]
      congr 1
      omega
  have outer : ∀ j K T, j ≤ m + 1 → T.length = m + 1 → (∀ i', j ≤ i' → i' ≤ m → RowSt n (V i') 0 (T.getD i' [])) → (∀ i', i' < j → P (T.getD i' [])) → L0 (K + 1 + j * ((n + 1) * c + 2)) T ((j : Int) - 1) = some (R (tabOf m n V)) := by
    intro j
    induction j with
    | zero =>
      intro K T hj hl hr hp
      rw [show ((0 : Nat) : Int) - 1 = -1 from rfl, Nat.zero_mul, Nat.add_zero, fin, tab_eq hl (fun i' hi' => hr i' (Nat.zero_le _) hi')]
    | succ j ih =>
      intro K T hj hl hr hp
      obtain ⟨r, hr1, hr2⟩ := init (K + 1 + j * ((n + 1) * c + 2) + 1 + (n + 1) * c) T j (by omega) hl (hp j (by omega))
      have hst : TabSt m n V P j (n + 1) (T.set j r) := by
        refine ⟨by rw [List.length_set]; exact hl, fun i' hi' hm' => ?_, ?_, fun i' hi' => ?_⟩
        · rw [getD_set_ne (by omega)]
          exact hr i' (by omega) hm'
        · rw [getD_set_self (by omega)]
          exact ⟨hr1, fun k hk hn => by omega⟩
        · rw [getD_set_ne (by omega)]
          exact hp i' (by omega)
      obtain ⟨T', h1, h2⟩ := inner (n + 1) (K + 1 + j * ((n + 1) * c + 2) + 1) _ j (by omega) (Nat.le_refl _) hst
      rw [show ((n + 1 : Nat) : Int) - 1 = (n : Int) by omega] at h2
      rw [show K + 1 + (j + 1) * ((n + 1) * c + 2) = K + 1 + j * ((n + 1) * c + 2) + 1 + (n + 1) * c + 1 by rw [Nat.succ_mul]; omega, show ((j + 1 : Nat) : Int) - 1 = (j : Int) by omega, hr2, h2, out _ _ _ (by omega)]
      refine ih K T' (by omega) h1.1 (fun i' hi' hm' => ?_) (fun i' hi' => h1.2.2.2 i' hi')
      rcases Nat.eq_or_lt_of_le hi' with e | e
      · subst e
        exact h1.2.2.1
      · exact h1.2.1 i' e hm'
  intro K hK
  have hb : (m + 1) * ((n + 1) * c + 2) ≤ 61 * (61 * 20 + 2) := Nat.mul_le_mul (by omega) (Nat.add_le_add_right (Nat.mul_le_mul (by omega) hc) _)
  have e := outer (m + 1) (K - 1 - (m + 1) * ((n + 1) * c + 2)) T0 (Nat.le_refl _) h0 (fun i' h1 h2 => by omega) (fun i' hi' => hP i' (by omega))
  rw [show K - 1 - (m + 1) * ((n + 1) * c + 2) + 1 + (m + 1) * ((n + 1) * c + 2) = K by omega, show ((m + 1 : Nat) : Int) - 1 = (m : Int) by omega] at e
  exact e
end Go.Proofs.Ytidkniacmcbgiaa.G.Pure
end

section
namespace Go.Proofs.Ytidkniacmcbgiaa.G.Pure
open Go.RowKit Go.Proofs.Ytidkniacmcbgiaa.G Go.Proofs.YtidkniacmcbgiaaW.PrintWords Go.Proofs.YtidkniacmcbgiaaW.PrintLast Go.Proofs.YtidkniacmcbgiaaW.PrintMore
set_option linter.unusedVariables false
set_option linter.unusedSimpArgs false
theorem valid_parts {l : List En} (h : validG l = true) : l.length ≤ 60 ∧ gd l l.length = true ∧ ∃ o, ups l l.length = some o := by
  unfold validG at h
  simp only [Bool.and_eq_true, decide_eq_true_eq] at h
  exact ⟨h.1.1, h.1.2, Option.isSome_iff_exists.1 h.2⟩
end Go.Proofs.Ytidkniacmcbgiaa.G.Pure
end

section
namespace Go.Proofs.Ytidkniacmcbgiaa.G.Pure
open Go.RowKit Go.Proofs.Ytidkniacmcbgiaa.G Go.Proofs.YtidkniacmcbgiaaW.PrintWords Go.Proofs.YtidkniacmcbgiaaW.PrintLast Go.Proofs.YtidkniacmcbgiaaW.PrintMore
set_option linter.unusedVariables false
set_option linter.unusedSimpArgs false
def costW (a b : List En) : Nat → Nat → Int
  | 0, q => 2 * (q : Int)
  | p + 1, 0 => (p : Int) + 1
  | p + 1, q + 1 =>
    if fitC (rd_T73 a ((a.length - (p + 1) : Nat) : Int)) (rd_T73 b ((b.length - (q + 1) : Nat) : Int)) = true then mn (mn (costW a b p (q + 1) + 1) (costW a b (p + 1) q + 2)) (costW a b p q + costC (rd_T73 a ((a.length - (p + 1) : Nat) : Int)) (rd_T73 b ((b.length - (q + 1) : Nat) : Int)))
    else mn (costW a b p (q + 1) + 1) (costW a b (p + 1) q + 2)
def costV (a b : List En) (i k : Nat) : Int := costW a b (a.length - i) (b.length - k)
theorem mn_le (x y : Int) : mn x y ≤ x ∧ mn x y ≤ y ∧ (mn x y = x ∨ mn x y = y) := by
  unfold mn
  split <;> refine ⟨?_, ?_, ?_⟩ <;> first | omega | exact .inl rfl | exact .inr rfl
theorem costW_b (a b : List En) : ∀ p q, 0 ≤ costW a b p q ∧ costW a b p q ≤ (p : Int) + 2 * (q : Int) := by
  intro p
  induction p with
  | zero =>
    intro q
    rw [costW]
    omega
  | succ p ih =>
    intro q
    induction q with
    | zero =>
      rw [costW]
      omega
    | succ q ihq =>
      have h1 := ih (q + 1)
      have h2 := ih q
      have h3 := costC_b (rd_T73 a ((a.length - (p + 1) : Nat) : Int)) (rd_T73 b ((b.length - (q + 1) : Nat) : Int))
      rw [costW]
      have m1 := mn_le (costW a b p (q + 1) + 1) (costW a b (p + 1) q + 2)
      have m2 := mn_le (mn (costW a b p (q + 1) + 1) (costW a b (p + 1) q + 2)) (costW a b p q + costC (rd_T73 a ((a.length - (p + 1) : Nat) : Int)) (rd_T73 b ((b.length - (q + 1) : Nat) : Int)))
      split <;> omega
theorem costV_b {a b : List En} (ha : a.length ≤ 60) (hb : b.length ≤ 60) (i k : Nat) : 0 ≤ costV a b i k ∧ costV a b i k ≤ 180 := by
  have := costW_b a b (a.length - i) (b.length - k)
  unfold costV
  omega
theorem costV_end1 {a b : List En} {k : Nat} (hk : k ≤ b.length) : costV a b a.length k = 2 * ((b.length : Int) - (k : Int)) := by
  unfold costV
  rw [Nat.sub_self, costW]
  omega
theorem costV_end2 {a b : List En} {i : Nat} (hi : i < a.length) : costV a b i b.length = (a.length : Int) - (i : Int) := by
  unfold costV
  obtain ⟨p, hp⟩ : ∃ p, a.length - i = p + 1 := ⟨a.length - i - 1, by omega⟩
  rw [Nat.sub_self, hp, costW]
  omega
theorem costV_in {a b : List En} {i k : Nat} (hi : i < a.length) (hk : k < b.length) : costV a b i k =
    if fitC (rd_T73 a (i : Int)) (rd_T73 b (k : Int)) = true then mn (mn (costV a b (i + 1) k + 1) (costV a b i (k + 1) + 2)) (costV a b (i + 1) (k + 1) + costC (rd_T73 a (i : Int)) (rd_T73 b (k : Int)))
    else mn (costV a b (i + 1) k + 1) (costV a b i (k + 1) + 2) := by
  unfold costV
  obtain ⟨p, hp⟩ : ∃ p, a.length - i = p + 1 := ⟨a.length - i - 1, by omega⟩
  obtain ⟨q, hq⟩ : ∃ q, b.length - k = q + 1 := ⟨b.length - k - 1, by omega⟩
  rw [hp, hq, costW, show a.length - (i + 1) = p by omega, show b.length - (k + 1) = q by omega, show a.length - (p + 1) = i by omega, show b.length - (q + 1) = k by omega]
set_option maxHeartbeats 1000000 in
theorem numV {a b : List En} (ha : a.length ≤ 60) (hb : b.length ≤ 60) {P : List Int → Prop} {T : List (List Int)} {i q : Nat} (hi : i ≤ a.length) (hq : q ≤ b.length) (h : TabSt a.length b.length (costV a b) P i (q + 1) T) :
    impl_faults_1.f T (i : Int) (q : Int) a b = some (costV a b i q) := by
  obtain ⟨h1, h2, h3, h4⟩ := h
  unfold impl_faults_1.f
  by_cases e1 : i = a.length
  · rw [if_pos (by omega), e1, costV_end1 hq, w64 (n := (b.length : Int) - (q : Int)) (by omega) (by omega), w64 (by omega) (by omega)]
  · rw [if_neg (by omega)]
    by_cases e2 : q = b.length
    · rw [if_pos (by omega), e2, costV_end2 (by omega), w64 (n := (a.length : Int) - (i : Int)) (by omega) (by omega), w64 (by omega) (by omega), Int.one_mul]
    · rw [if_neg (by omega), w64 (n := (i : Int) + 1) (by omega) (by omega), w64 (n := (q : Int) + 1) (by omega) (by omega)]
      have r1 := h2 (i + 1) (by omega) (by omega)
      have d1 : rd_L6 T ((i : Int) + 1) = T.getD (i + 1) [] := by rw [show (i : Int) + 1 = ((i + 1 : Nat) : Int) by omega]; rfl
      have d0 : rd_L6 T (i : Int) = T.getD i [] := rfl
      rw [d1, d0]
      have g1 := rowSt_get r1 (Nat.zero_le q) (by omega)
      have g2 : rd (T.getD (i + 1) []) ((q : Int) + 1) = costV a b (i + 1) (q + 1) := by
        have := rowSt_get r1 (Nat.zero_le (q + 1)) (by omega)
        rwa [show ((q + 1 : Nat) : Int) = (q : Int) + 1 by omega] at this
      have g3 : rd (T.getD i []) ((q : Int) + 1) = costV a b i (q + 1) := by
        have := rowSt_get h3 (Nat.le_refl (q + 1)) (by omega)
        rwa [show ((q + 1 : Nat) : Int) = (q : Int) + 1 by omega] at this
      have l1 := r1.1
      have l0 := h3.1
      have b1 := costV_b ha hb (i + 1) q
      have b2 := costV_b ha hb (i + 1) (q + 1)
      have b3 := costV_b ha hb i (q + 1)
      have c1 := costC_b (rd_T73 a (i : Int)) (rd_T73 b (q : Int))
      rw [if_pos (by omega), if_pos (by omega), if_pos (by omega), if_pos (by omega), if_pos (by omega), if_pos (by omega), if_pos (by omega), if_pos (by omega), if_pos (by omega), if_pos (by omega), stepFaults_eq]
      simp only [Option.bind_some]
      rw [g1, g2, g3, costV_in (i := i) (k := q) (by omega) (by omega)]
      cases hf : fitC (rd_T73 a (i : Int)) (rd_T73 b (q : Int)) with
      | false =>
        simp only [Bool.false_eq_true, if_false]
        rw [w64 (by omega) (by omega), w64 (by omega) (by omega)]
      | true =>
        simp only [if_true]
        rw [if_pos (by omega), w64 (by omega) (by omega), w64 (by omega) (by omega), w64 (by omega) (by omega)]
theorem implFaults_eq {k : Nat} {a b : List En} (ha : a.length ≤ 60) (hb : b.length ≤ 60) (hk : 100000 ≤ k) : impl_faults.f k a b = some (tabOf a.length b.length (costV a b)) := by
  unfold impl_faults.f impl_table__impl_faults_1.f
  rw [w64 (by omega) (by omega), if_pos (by omega), if_pos (by omega)]
  have e := tab_loop a.length b.length 1 (costV a b) (fun _ => True) (fun K T i => impl_table__impl_faults_1.l0 K b T i a b) (fun K T i q => impl_table__impl_faults_1.l1 K b T i q a b) (fun T => T) ha hb (by omega)
    (fun K T i hi hl _ => by
      refine ⟨List.replicate (b.length + 1) 0, by simp, ?_⟩
      simp only [impl_table__impl_faults_1.l0]
      rw [if_pos (by omega), w64 (by omega) (by omega), if_pos (by omega), if_pos (by omega), if_pos (by omega), if_pos (by omega)]
      rw [show ((b.length : Int) + 1).toNat = b.length + 1 by omega, Int.toNat_natCast])
    (fun K T i q hi hq h => by
      have l0 := h.2.2.1.1
      have l1 := h.1
      simp only [impl_table__impl_faults_1.l1]
      rw [if_pos (by omega), if_pos (by omega), if_pos (by omega), numV ha hb hi hq h]
      simp only [Option.bind_some]
      have d0 : rd_L6 T (i : Int) = T.getD i [] := rfl
      rw [d0, if_pos (by omega), if_pos (by omega), w64 (by omega) (by omega), Int.toNat_natCast, Int.toNat_natCast])
    (fun K T i hi => by
      simp only [impl_table__impl_faults_1.l1]
      rw [if_neg (by omega), w64 (by omega) (by omega)])
    (fun K T => by
      simp only [impl_table__impl_faults_1.l0]
      rw [if_neg (by omega)]) (List.replicate (a.length + 1) []) (by simp) (fun _ _ => trivial) k hk
  rw [show ((a.length : Int) + 1).toNat = a.length + 1 by omega]
  try simp only at e
  rw [e]
  rfl
theorem const_flat {α : Type} (x : α) (n : Nat) : (List.range n).flatMap (fun _ => [x]) = List.replicate n x := by
  induction n with
  | zero => rfl
  | succ n ih =>
    rw [List.range_succ, List.flatMap_append, ih, List.replicate_succ']
    rfl
theorem l00Max_eq (x y : Int) : spec_l00Max.f x y = some (mx x y) := by
  unfold spec_l00Max.f mx
  split <;> split <;> first | rfl | (congr 1; omega) | omega
theorem specBegin_eq {k : Nat} {a b : List En} (ha : a.length ≤ 60) (hb : b.length ≤ 60) (hk : 100000 ≤ k) : spec_l07Begin.f k a b = some (List.replicate (a.length + 1) (List.replicate (b.length + 1) 0)) := by
  unfold spec_l07Begin.f
  have e := loop_acc (fun k acc i => spec_l07Begin.l0 k a b acc i) (a.length + 1) (fun _ => [List.replicate (b.length + 1) 0]) (fun T => T) (fun _ _ => by simp)
    (fun k i acc hi ha' => by
      simp only [spec_l07Begin.l0]
      rw [if_pos (by omega), w64 (by omega) (by omega), if_pos (by omega), if_pos (by omega), if_pos (by omega), w64 (by omega) (by omega), show ((b.length : Int) + 1).toNat = b.length + 1 by omega]
      rfl)
    (fun k acc h => by
      simp only [spec_l07Begin.l0]
      rw [if_neg (by omega)]) k (by omega)
  rw [e, const_flat]
theorem specStep {a b : List En} (ha : a.length ≤ 60) (hb : b.length ≤ 60) {K : Nat} {T : List (List Int)} {i q : Nat} (hi : i ≤ a.length) (hq : q ≤ b.length) (h : TabSt a.length b.length (costV a b) (fun r => r.length = b.length + 1) i (q + 1) T) :
    spec_l07Costs.l1 (K + 5) a b T (i : Int) (q : Int) = spec_l07Costs.l1 K a b (T.set i ((T.getD i []).set q (costV a b i q))) (i : Int) ((q : Int) - 1) := by
  obtain ⟨h1, h2, h3, h4⟩ := h
  have d0 : rd_L6 T (i : Int) = T.getD i [] := rfl
  have d1 : rd_L6 T ((i : Int) + 1) = T.getD (i + 1) [] := by rw [show (i : Int) + 1 = ((i + 1 : Nat) : Int) by omega]; rfl
  have l0 := h3.1
  have hb3 := costV_b ha hb i (q + 1)
  have hb1 := costV_b ha hb (i + 1) q
  have hb2 := costV_b ha hb (i + 1) (q + 1)
  have hst : ∀ (K : Nat) (x : Int), mx x 0 = costV a b i q → (if 0 ≤ (i : Int) then (if (i : Int) < (T.length : Int) then ((spec_l00Max.f x 0).bind fun t133 => (if 0 ≤ (q : Int) then (if (q : Int) < ((T.getD i []).length : Int) then (spec_l07Costs.l1 K a b (T.set ((i : Int)).toNat ((T.getD i []).set ((q : Int)).toNat t133)) (i : Int) (wrap64 ((q : Int) - 1))) else none) else none)) else none) else none) = spec_l07Costs.l1 K a b (T.set i ((T.getD i []).set q (costV a b i q))) (i : Int) ((q : Int) - 1) := fun K x hx => by
    rw [if_pos (by omega), if_pos (by omega), l00Max_eq, hx]
    simp only [Option.bind_some]
    rw [if_pos (by omega), if_pos (by omega), w64 (by omega) (by omega), Int.toNat_natCast, Int.toNat_natCast]
  have g3 : q < b.length → rd (T.getD i []) ((q : Int) + 1) = costV a b i (q + 1) := fun hqb => by
    have := rowSt_get h3 (Nat.le_refl (q + 1)) (by omega)
    rwa [show ((q + 1 : Nat) : Int) = (q : Int) + 1 by omega] at this
  rcases Nat.eq_or_lt_of_le hi with e1 | e1
  · subst e1
    rw [show K + 5 = (K + 4) + 1 from rfl]
    simp only [spec_l07Costs.l1]
    rw [if_pos (by omega), if_neg (by omega), show K + 4 = (K + 3) + 1 from rfl]
    simp only [spec_l07Costs.j2]
    rcases Nat.eq_or_lt_of_le hq with e2 | e2
    · subst e2
      rw [if_neg (by omega), show K + 3 = (K + 2) + 1 from rfl]
      simp only [spec_l07Costs.j3]
      rw [if_neg (by simp), show K + 2 = (K + 1) + 1 from rfl]
      simp only [spec_l07Costs.j4]
      rw [if_neg (by omega)]
      simp only [spec_l07Costs.j5]
      rw [if_neg (by simp), d0]
      exact hst K (-1) (by rw [costV_end1 (Nat.le_refl _)]; unfold mx; omega)
    · rw [if_pos (by omega), if_pos (by omega), show K + 3 = (K + 2) + 1 from rfl]
      simp only [spec_l07Costs.j3]
      rw [if_pos trivial, if_pos (by omega), if_pos (by omega), w64 (n := (q : Int) + 1) (by omega) (by omega), if_pos (by omega), d0, if_pos (by omega), g3 e2, w64 (by omega) (by omega), show K + 2 = (K + 1) + 1 from rfl]
      simp only [spec_l07Costs.j4]
      rw [if_neg (by omega)]
      simp only [spec_l07Costs.j5]
      rw [if_neg (by simp), d0]
      exact hst K _ (by rw [costV_end1 (by omega), costV_end1 (by omega)]; unfold mx; rw [if_neg (by omega)]; omega)
  · have r1 := h2 (i + 1) (by omega) (by omega)
    have l1 := r1.1
    have g1 := rowSt_get r1 (Nat.zero_le q) hq
    rw [show K + 5 = (K + 4) + 1 from rfl]
    simp only [spec_l07Costs.l1]
    rw [if_pos (by omega), if_pos (by omega), w64 (n := (i : Int) + 1) (by omega) (by omega), if_pos (by omega), if_pos (by omega), if_pos (by omega), d1, if_pos (by omega), g1, w64 (by omega) (by omega), show K + 4 = (K + 3) + 1 from rfl]
    simp only [spec_l07Costs.j2]
    rcases Nat.eq_or_lt_of_le hq with e2 | e2
    · subst e2
      rw [if_neg (by omega), show K + 3 = (K + 2) + 1 from rfl]
      simp only [spec_l07Costs.j3]
      rw [if_neg (by simp), show K + 2 = (K + 1) + 1 from rfl]
      simp only [spec_l07Costs.j4]
      rw [if_pos (by omega), decide_eq_false (by omega)]
      simp only [spec_l07Costs.j5]
      rw [if_neg (by simp), d0]
      refine hst K _ ?_
      rw [costV_end2 e1]
      by_cases e3 : i + 1 = a.length
      · rw [e3, costV_end1 (Nat.le_refl _)]
        unfold mx
        rw [if_neg (by omega)]
        omega
      · rw [costV_end2 (by omega)]
        unfold mx
        rw [if_neg (by omega)]
        omega
    · have g2 : rd (T.getD (i + 1) []) ((q : Int) + 1) = costV a b (i + 1) (q + 1) := by
        have := rowSt_get r1 (Nat.zero_le (q + 1)) (by omega)
        rwa [show ((q + 1 : Nat) : Int) = (q : Int) + 1 by omega] at this
      have c1 := costC_b (rd_T73 a (i : Int)) (rd_T73 b (q : Int))
      rw [if_pos (by omega), if_neg (by omega), if_pos (by omega), if_pos (by omega), w64 (n := (q : Int) + 1) (by omega) (by omega), if_pos (by omega), d0, if_pos (by omega), g3 e2, w64 (n := 2 + costV a b i (q + 1)) (by omega) (by omega)]
      have hj : spec_l07Costs.j3 (K + 3) a b T (i : Int) (q : Int) (1 + costV a b (i + 1) q) (decide (2 + costV a b i (q + 1) < 1 + costV a b (i + 1) q)) = spec_l07Costs.j4 (K + 2) a b T (i : Int) (q : Int) (mn (costV a b (i + 1) q + 1) (costV a b i (q + 1) + 2)) := by
        simp only [spec_l07Costs.j3]
        by_cases hlt : 2 + costV a b i (q + 1) < 1 + costV a b (i + 1) q
        · rw [decide_eq_true hlt, if_pos rfl, if_pos (by omega), if_pos (by omega), w64 (n := (q : Int) + 1) (by omega) (by omega), if_pos (by omega), d0, if_pos (by omega), g3 e2, w64 (by omega) (by omega)]
          congr 1
          unfold mn
          rw [if_pos (by omega)]
          omega
        · rw [decide_eq_false hlt, if_neg (by simp)]
          congr 1
          unfold mn
          split <;> omega
      rw [hj]
      have hm := mn_le (costV a b (i + 1) q + 1) (costV a b i (q + 1) + 2)
      have hv := costV_in (a := a) (b := b) e1 e2
      generalize mn (costV a b (i + 1) q + 1) (costV a b i (q + 1) + 2) = x at *
      rw [show K + 2 = (K + 1) + 1 from rfl]
      simp only [spec_l07Costs.j4]
      rw [if_pos (by omega), decide_eq_true (by omega)]
      simp only [spec_l07Costs.j5]
      rw [if_pos trivial, if_pos (by omega), if_pos (by omega), if_pos (by omega), if_pos (by omega), cost_eq]
      simp only [Option.bind_some]
      rw [d0, w64 (n := (i : Int) + 1) (by omega) (by omega), w64 (n := (q : Int) + 1) (by omega) (by omega), d1, g2]
      have hx0 : 0 ≤ x := by omega
      cases hf : fitC (rd_T73 a (i : Int)) (rd_T73 b (q : Int)) with
      | false =>
        rw [hf] at hv
        simp only [Bool.false_eq_true, if_false] at hv ⊢
        rw [if_neg (by omega)]
        have := hst K x (by rw [hv]; unfold mx; split <;> omega)
        rw [if_pos (by omega)] at this
        rw [← this]
        by_cases hh : (i : Int) < (T.length : Int)
        · rw [if_pos hh, if_pos hh]
          congr 1
          first | done | (funext t; rw [if_pos (by omega)])
        · omega
      | true =>
        rw [hf] at hv
        simp only [if_true] at hv ⊢
        rw [if_pos (by omega), if_pos (by omega), if_pos (by omega), if_pos (by omega), if_pos (by omega), w64 (by omega) (by omega)]
        have key : ∀ y : Int, mx y 0 = costV a b i q → (if (i : Int) < (T.length : Int) then ((spec_l00Max.f y 0).bind fun t118 => (if (q : Int) < ((T.getD i []).length : Int) then (spec_l07Costs.l1 K a b (T.set ((i : Int)).toNat ((T.getD i []).set ((q : Int)).toNat t118)) (i : Int) (wrap64 ((q : Int) - 1))) else none)) else none) = spec_l07Costs.l1 K a b (T.set i ((T.getD i []).set q (costV a b i q))) (i : Int) ((q : Int) - 1) := fun y hy => by
          rw [if_pos (by omega), l00Max_eq, hy]
          simp only [Option.bind_some]
          rw [if_pos (by omega), w64 (by omega) (by omega), Int.toNat_natCast, Int.toNat_natCast]
        split
        · rename_i hlt
          exact key _ (by rw [hv]; unfold mx mn; split <;> split <;> omega)
        · rename_i hlt
          exact key _ (by rw [hv]; unfold mx mn; split <;> split <;> omega)
theorem specCosts_eq {k : Nat} {a b : List En} (ha : a.length ≤ 60) (hb : b.length ≤ 60) (hk : 100000 ≤ k) : spec_l07Costs.f k a b = some (tabOf a.length b.length (costV a b)) := by
  unfold spec_l07Costs.f
  rw [specBegin_eq ha hb hk]
  simp only [Option.bind_some]
  exact tab_loop a.length b.length 5 (costV a b) (fun r => r.length = b.length + 1) (fun K T i => spec_l07Costs.l0 K a b T i) (fun K T i q => spec_l07Costs.l1 K a b T i q) (fun T => T) ha hb (by omega)
    (fun K T i hi hl hp => by
      refine ⟨T.getD i [], hp, ?_⟩
      simp only [spec_l07Costs.l0]
      rw [if_pos (by omega)]
      congr 1
      rw [List.getD_eq_getElem?_getD, List.getElem?_eq_getElem (by omega)]
      simp)
    (fun K T i q hi hq h => specStep ha hb hi hq h)
    (fun K T i hi => by
      simp only [spec_l07Costs.l1]
      rw [if_neg (by omega), w64 (by omega) (by omega)])
    (fun K T => by
      simp only [spec_l07Costs.l0]
      rw [if_neg (by omega)]) _ (by simp) (fun i hi => by
        rw [List.getD_eq_getElem?_getD, List.getElem?_replicate, if_pos (by omega)]
        simp) k hk
theorem tab00 {m n : Nat} {V : Nat → Nat → Int} : (if 0 < ((tabOf m n V).length : Int) then (if 0 < ((rd_L6 (tabOf m n V) 0).length : Int) then (some (rd (rd_L6 (tabOf m n V) 0) 0, (0 : Int))) else none) else none) = some (V 0 0, 0) := by
  have e := tab_row (m := m) (n := n) (V := V) (Nat.zero_le m)
  rw [show ((0 : Nat) : Int) = 0 from rfl] at e
  have e2 := row_at (n := n) (V := V 0) (Nat.zero_le n)
  rw [show ((0 : Nat) : Int) = 0 from rfl] at e2
  have l1 := tab_len (m := m) (n := n) (V := V)
  have l2 := row_len (n := n) (V := V 0)
  rw [e, if_pos (by omega), if_pos (by omega), e2]
end Go.Proofs.Ytidkniacmcbgiaa.G.Pure
end

section
namespace Go.Proofs.Ytidkniacmcbgiaa.G.Pure
open Go.RowKit Go.Proofs.Ytidkniacmcbgiaa.G Go.Proofs.YtidkniacmcbgiaaW.PrintWords Go.Proofs.YtidkniacmcbgiaaW.PrintLast Go.Proofs.YtidkniacmcbgiaaW.PrintMore
set_option linter.unusedVariables false
set_option linter.unusedSimpArgs false
abbrev Gs := List (List En)
def logsOf (l : List (List (S75))) : Gs := l.map fun x => x.map entryOf
theorem rdL_laws {l : List (List (S75))} {i : Nat} (h : i < l.length) : rd_L9 l (i : Int) = l[i] := by
  simp [rd_L9, List.getD_eq_getElem?_getD, List.getElem?_eq_getElem h]
theorem rdL_impl {l : Gs} {i : Nat} (h : i < l.length) : rd_L5 l (i : Int) = l[i] := by
  simp [rd_L5, List.getD_eq_getElem?_getD, List.getElem?_eq_getElem h]
theorem szLogS_ok {k : Nat} {l : List (List (S75))} (hl : l.length ≤ 9223372036854775807) (hi : ∀ x ∈ l, x.length ≤ 9223372036854775807) (hk : 1100000 < k) : ∃ n, laws_szLogS.f k l 1048576 = some n ∧ (n < 0 ∨ ¬ n < 0 ∧ l.length ≤ 1048576 ∧ ∀ x ∈ l, x.length ≤ 1048576) := by
  unfold laws_szLogS.f
  rw [w64 (by omega) (by omega)]
  by_cases h : (1048576 : Int) - (l.length : Int) < 0
  · rw [if_pos h]
    exact ⟨-1, rfl, .inl (by omega)⟩
  · rw [if_neg h]
    obtain ⟨r, hr, h'⟩ := loop_inv (fun k (s : Int × Int) => laws_szLogS.l0 k l s.1 s.2) l.length (fun i s => s.2 = (i : Int) ∧ 0 ≤ s.1 ∧ s.1 ≤ 1048576 ∧ ∀ j (h : j < l.length), j < i → l[j].length ≤ 1048576) (fun n => n < 0 ∨ ¬ n < 0 ∧ l.length ≤ 1048576 ∧ ∀ x ∈ l, x.length ≤ 1048576)
      (fun k i s hil ⟨h1, h2, h3, h4⟩ => by
        obtain ⟨a, x⟩ := s
        simp only at h1 h2 h3 h4
        subst h1
        have hx := hi _ (List.getElem_mem hil)
        simp only [laws_szLogS.l0]
        rw [if_pos (by omega), if_pos (by omega), rdL_laws hil, szLog_eq _ _ h2 h3 hx]
        simp only [Option.bind_some]
        by_cases hneg : a - (l[i].length : Int) < 0
        · rw [if_pos hneg, if_pos (by omega)]
          exact .inr ⟨-1, .inl (by omega), rfl⟩
        · rw [if_neg hneg, if_neg hneg, w64 (by omega) (by omega)]
          refine .inl ⟨(a - (l[i].length : Int), ((i + 1 : Nat) : Int)), ⟨rfl, by simp only; omega, by simp only; omega, fun j hj hji => ?_⟩, rfl⟩
          rcases Nat.lt_succ_iff_lt_or_eq.1 hji with e | e
          · exact h4 j hj e
          · subst e
            omega)
      (fun k s ⟨h1, h2, h3, h4⟩ => by
        obtain ⟨a, x⟩ := s
        simp only at h1 h2 h3 h4
        subst h1
        refine ⟨a, .inr ⟨by omega, by omega, fun x hx => ?_⟩, ?_⟩
        · obtain ⟨j, hj, rfl⟩ := List.mem_iff_getElem.1 hx
          exact h4 j hj hj
        · simp only [laws_szLogS.l0]
          rw [if_neg (by omega)]) k ((1048576 : Int) - (l.length : Int), 0) ⟨rfl, by simp only; omega, by simp only; omega, fun j _ h => absurd h (Nat.not_lt_zero _)⟩ (by omega)
    exact ⟨r, h', hr⟩
theorem toLogS_eq {k : Nat} {l : List (List (S75))} (hl : l.length ≤ 1048576) (hi : ∀ x ∈ l, x.length ≤ 1048576) (hk : 2200000 < k) : laws_toLogS.f k l = some (logsOf l) := by
  unfold laws_toLogS.f
  rw [if_pos (by omega), if_pos (by omega)]
  obtain ⟨r, hr, h⟩ := loop_inv2 (fun k (s : Gs × Int) => laws_toLogS.l0 k l s.1 s.2) l.length 1048577 (fun i s => s.2 = (i : Int) ∧ s.1.length = l.length ∧ s.1.take i = (logsOf l).take i) (fun r => r = logsOf l)
    (fun k i s hil hk ⟨h1, h2, h3⟩ => by
      obtain ⟨acc, x⟩ := s
      simp only at h1 h2 h3
      subst h1
      refine .inl ⟨(acc.set i (l[i].map entryOf), ((i + 1 : Nat) : Int)), ⟨rfl, by simpa using h2, ?_⟩, ?_⟩
      · rw [take_set_succ (by omega), h3, List.take_succ_eq_append_getElem (by simpa [logsOf] using hil)]
        simp [logsOf]
      · simp only [laws_toLogS.l0]
        rw [if_pos (by omega), if_pos (by omega), rdL_laws hil, toLog_eq k _ (hi _ (List.getElem_mem hil)) (by have := hi _ (List.getElem_mem hil); omega)]
        simp only [Option.bind_some]
        rw [if_pos (by omega), w64 (by omega) (by omega)]
        rfl)
    (fun k s hk ⟨h1, h2, h3⟩ => by
      obtain ⟨acc, x⟩ := s
      simp only at h1 h2 h3
      subst h1
      refine ⟨acc, ?_, ?_⟩
      · rw [List.take_of_length_le (by omega), List.take_of_length_le (by simp [logsOf])] at h3
        exact h3
      · simp only [laws_toLogS.l0]
        rw [if_neg (by omega)]) k (List.replicate l.length [], 0) ⟨rfl, by simp, by simp⟩ (by omega)
  subst hr
  simpa using h
theorem eqLogS_self {k : Nat} {l : Gs} (hl : l.length ≤ 1048576) (hi : ∀ x ∈ l, x.length ≤ 1048576) (hk : 2200000 < k) : laws_eqLogS.f k l l = some true := by
  unfold laws_eqLogS.f
  rw [if_pos rfl]
  obtain ⟨r, hr, h⟩ := loop_inv2 (fun k (s : Int) => laws_eqLogS.l0 k l l s) l.length 1048577 (fun i s => s = (i : Int)) (fun r => r = true)
    (fun k i s hil hk h1 => by
      subst h1
      refine .inl ⟨((i + 1 : Nat) : Int), rfl, ?_⟩
      simp only [laws_eqLogS.l0]
      rw [if_pos (by omega), if_pos (by omega), if_pos (by omega), rdL_impl hil, eqLog_self k _ (hi _ (List.getElem_mem hil)) (by have := hi _ (List.getElem_mem hil); omega)]
      simp only [Option.bind_some, if_true]
      rw [w64 (by omega) (by omega)]
      rfl)
    (fun k s hk h1 => by
      subst h1
      refine ⟨true, rfl, ?_⟩
      simp only [laws_eqLogS.l0]
      rw [if_neg (by omega)]) k 0 rfl (by omega)
  subst hr
  exact h
theorem logsOf_len {l : List (List (S75))} (hl : l.length ≤ 1048576) (hi : ∀ x ∈ l, x.length ≤ 1048576) : (logsOf l).length ≤ 1048576 ∧ ∀ x ∈ logsOf l, x.length ≤ 1048576 := by
  refine ⟨by simpa [logsOf] using hl, fun x hx => ?_⟩
  unfold logsOf at hx
  obtain ⟨y, hy, rfl⟩ := List.mem_map.1 hx
  simpa using hi y hy
def codeL (l : Gs) : Int := if l.all validG = true then (if (decide (1 ≤ (l.length : Int)) && decide ((l.length : Int) ≤ 8)) = true then 0 else 2) else 1
theorem implAllCode {l : Gs} (hi : ∀ x ∈ l, x.length ≤ 1048576) : impl_allCode.f l = some (codeL l) := by
  unfold impl_allCode.f slices_ContainsFunc_Log_Log__impl_allCode_1.f codeL
  rw [anyO_eq (p := fun x => impl_allCode_1.f x) (q := fun x => !validG x) (fun x hx => by unfold impl_allCode_1.f; rw [implValid_log (hi x hx)]; rfl)]
  simp only [Option.bind_some]
  cases ha : l.all validG with
  | true =>
    have : l.any (fun x => !validG x) = false := by
      rw [List.any_eq_false]
      intro x hx
      rw [List.all_eq_true.1 ha x hx]
      simp
    rw [this]
    simp only [Bool.false_eq_true, if_false, if_true, impl_size_Log.f, Option.bind_some, impl_Log_up.within]
    cases (decide (1 ≤ (l.length : Int)) && decide ((l.length : Int) ≤ 8)) <;> rfl
  | false =>
    have : l.any (fun x => !validG x) = true := by
      rw [List.any_eq_true]
      obtain ⟨x, hx, h⟩ := List.all_eq_false.1 ha
      exact ⟨x, hx, by simpa using h⟩
    rw [this]
    rfl
theorem specLogs {k : Nat} {l : Gs} (hl : l.length ≤ 1048576) (hk : 1100000 < k) : spec_l07Logs.f k l = some (codeL l) := by
  unfold spec_l07Logs.f
  obtain ⟨r, hr, h⟩ := loop_inv2 (fun k (s : Int) => spec_l07Logs.l0 k l s) l.length 6001 (fun i s => s = (i : Int) ∧ ∀ j (h : j < l.length), j < i → validG l[j] = true) (fun r => r = codeL l)
    (fun k i s hil hk ⟨h1, h2⟩ => by
      subst h1
      simp only [spec_l07Logs.l0]
      rw [if_pos (by omega), if_pos (by omega), rdL_impl hil, specOk_log (by omega)]
      simp only [Option.bind_some]
      cases hv : validG l[i] with
      | true =>
        simp only [if_true]
        rw [w64 (by omega) (by omega)]
        refine .inl ⟨((i + 1 : Nat) : Int), ⟨rfl, fun j hj hji => ?_⟩, rfl⟩
        rcases Nat.lt_succ_iff_lt_or_eq.1 hji with e | e
        · exact h2 j hj e
        · subst e
          exact hv
      | false =>
        refine .inr ⟨1, ?_, by simp⟩
        unfold codeL
        rw [if_neg]
        intro h
        rw [List.all_eq_true.1 h _ (List.getElem_mem hil)] at hv
        cases hv)
    (fun k s hk ⟨h1, h2⟩ => by
      subst h1
      refine ⟨codeL l, rfl, ?_⟩
      simp only [spec_l07Logs.l0]
      rw [if_neg (by omega), in_log]
      simp only [Option.bind_some]
      unfold codeL
      rw [if_pos (List.all_eq_true.2 fun x hx => by
        obtain ⟨j, hj, rfl⟩ := List.mem_iff_getElem.1 hx
        exact h2 j hj hj)]
      split <;> rfl) k 0 ⟨rfl, fun j _ h => absurd h (Nat.not_lt_zero _)⟩ (by omega)
  subst hr
  exact h
theorem codeL_valid {l : Gs} (h : codeL l = 0) : (∀ x ∈ l, validG x = true) ∧ 1 ≤ l.length ∧ l.length ≤ 8 := by
  unfold codeL at h
  split at h
  · rename_i ha
    split at h
    · rename_i hb
      simp only [Bool.and_eq_true, decide_eq_true_eq] at hb
      exact ⟨List.all_eq_true.1 ha, by omega, by omega⟩
    · omega
  · omega
end Go.Proofs.Ytidkniacmcbgiaa.G.Pure
end

section
namespace Go.Proofs.Ytidkniacmcbgiaa.G.Pure
open Go.RowKit Go.Proofs.Ytidkniacmcbgiaa.G Go.Proofs.YtidkniacmcbgiaaW.PrintWords Go.Proofs.YtidkniacmcbgiaaW.PrintLast Go.Proofs.YtidkniacmcbgiaaW.PrintMore
set_option linter.unusedVariables false
set_option linter.unusedSimpArgs false
def costL (l : Gs) (i j : Nat) : Int := costV (rd_L5 l (i : Int)) (rd_L5 l (j : Int)) 0 0
def sumB (l : Gs) (i : Nat) : Nat → Int
  | 0 => 0
  | n + 1 => if n = i then sumB l i n else sumB l i n + costL l i n
def bstep (l : Gs) (i : Nat) (p : Int × Int) : Int × Int := if p.2 < 0 ∨ sumB l i l.length < p.2 then ((i : Int), sumB l i l.length) else p
def bstGo (l : Gs) : Nat → Nat → Int × Int → Int × Int
  | 0, _, p => p
  | d + 1, i, p => bstGo l d (i + 1) (bstep l i p)
theorem lens_of {l : Gs} (hv : ∀ x ∈ l, validG x = true) {i : Nat} (hi : i < l.length) : (rd_L5 l (i : Int)).length ≤ 60 := by
  rw [rdL_impl hi]
  exact (valid_parts (hv _ (List.getElem_mem hi))).1
theorem sumB_b {l : Gs} (hv : ∀ x ∈ l, validG x = true) {i : Nat} (hi : i < l.length) : ∀ n, n ≤ l.length → 0 ≤ sumB l i n ∧ sumB l i n ≤ 180 * (n : Int) := by
  intro n
  induction n with
  | zero => intro _; simp [sumB]
  | succ n ih =>
    intro hn
    have h1 := ih (by omega)
    have h2 := costV_b (lens_of hv hi) (lens_of hv (by omega : n < l.length)) 0 0
    rw [sumB]
    unfold costL
    split <;> omega
theorem implBest_in {l : Gs} (hv : ∀ x ∈ l, validG x = true) (hl : l.length ≤ 8) {i : Nat} (hi : i < l.length) (p : Int × Int) (K : Nat) (hK : 100000 ≤ K) : ∀ d j, j + d = l.length →
    impl_BestLog.l1 (K + d + 1) l p.1 p.2 (i : Int) (rd_L5 l (i : Int)) (sumB l i j) l (l.length : Int) (i : Int) l (l.length : Int) (j : Int) = impl_BestLog.l0 K l (bstep l i p).1 (bstep l i p).2 l (l.length : Int) ((i + 1 : Nat) : Int) := by
  intro d
  induction d with
  | zero =>
    intro j hj
    obtain rfl : j = l.length := by omega
    simp only [impl_BestLog.l1, Nat.add_zero]
    rw [if_neg (by omega), w64 (by omega) (by omega)]
    unfold bstep
    by_cases h1 : p.2 < 0
    · rw [if_pos h1, if_pos (.inl h1)]
      rfl
    · rw [if_neg h1]
      by_cases h2 : sumB l i l.length < p.2
      · rw [if_pos h2, if_pos (.inr h2)]
        rfl
      · rw [if_neg h2, if_neg (by omega)]
        rfl
  | succ d ih =>
    intro j hj
    have hjl : j < l.length := by omega
    have e := ih (j + 1) (by omega)
    have hb := sumB_b hv hi j (by omega)
    have hc := costV_b (lens_of hv hi) (lens_of hv hjl) 0 0
    rw [show K + (d + 1) + 1 = (K + d + 1) + 1 by omega]
    simp only [impl_BestLog.l1]
    rw [if_pos (by omega), if_pos (by omega), if_pos (by omega), w64 (n := (j : Int) + 1) (by omega) (by omega)]
    by_cases hji : j = i
    · rw [if_pos (by omega), ← e, sumB, if_pos hji]
      rfl
    · rw [if_neg (by omega), implFaults_eq (lens_of hv hi) (lens_of hv hjl) (by omega)]
      simp only [Option.bind_some]
      have t := tab00 (m := (rd_L5 l (i : Int)).length) (n := (rd_L5 l (j : Int)).length) (V := costV (rd_L5 l (i : Int)) (rd_L5 l (j : Int)))
      have t1 := tab_len (m := (rd_L5 l (i : Int)).length) (n := (rd_L5 l (j : Int)).length) (V := costV (rd_L5 l (i : Int)) (rd_L5 l (j : Int)))
      rw [if_pos (by omega)] at t ⊢
      split at t
      · rename_i h3
        rw [if_pos h3]
        simp only [Option.some.injEq, Prod.mk.injEq, and_true] at t
        rw [t, w64 (by omega) (by omega), ← e, sumB, if_neg hji]
        rfl
      · cases t
theorem implBest_all {l : Gs} (hv : ∀ x ∈ l, validG x = true) (hl : l.length ≤ 8) : ∀ d i p K, i + d = l.length → 100001 + d * 12 ≤ K → impl_BestLog.l0 K l p.1 p.2 l (l.length : Int) (i : Int) = some ((bstGo l d i p).1, (bstGo l d i p).2, 0) := by
  intro d
  induction d with
  | zero =>
    intro i p K hi hK
    obtain ⟨K, rfl⟩ : ∃ m, K = m + 1 := ⟨K - 1, by omega⟩
    simp only [impl_BestLog.l0, bstGo]
    rw [if_neg (by omega)]
  | succ d ih =>
    intro i p K hi hK
    obtain ⟨K, rfl⟩ : ∃ m, K = m + l.length + 1 + 1 := ⟨K - l.length - 2, by omega⟩
    have e := implBest_in hv hl (i := i) (by omega) p K (by omega) l.length 0 (by omega)
    simp only [impl_BestLog.l0, bstGo]
    rw [if_pos (by omega), if_pos (by omega), if_pos (by omega)]
    rw [show ((0 : Nat) : Int) = 0 from rfl, show sumB l i 0 = 0 from rfl] at e
    rw [e]
    exact ih (i + 1) _ K (by omega) (by omega)
theorem specBest_in {l : Gs} (hv : ∀ x ∈ l, validG x = true) (hl : l.length ≤ 8) {i : Nat} (hi : i < l.length) (p : Int × Int) (K : Nat) (hK : 100000 ≤ K) : ∀ d j, j + d = l.length →
    spec_BestLog.l1 (K + d + 1) l p.1 p.2 (i : Int) (sumB l i j) (j : Int) = spec_BestLog.l0 K l (bstep l i p).1 (bstep l i p).2 ((i + 1 : Nat) : Int) := by
  intro d
  induction d with
  | zero =>
    intro j hj
    obtain rfl : j = l.length := by omega
    simp only [spec_BestLog.l1, Nat.add_zero]
    rw [if_neg (by omega), w64 (by omega) (by omega)]
    unfold bstep
    by_cases h1 : p.2 < 0
    · rw [if_pos h1, if_pos (.inl h1)]
      rfl
    · rw [if_neg h1]
      by_cases h2 : sumB l i l.length < p.2
      · rw [if_pos h2, if_pos (.inr h2)]
        rfl
      · rw [if_neg h2, if_neg (by omega)]
        rfl
  | succ d ih =>
    intro j hj
    have hjl : j < l.length := by omega
    have e := ih (j + 1) (by omega)
    have hb := sumB_b hv hi j (by omega)
    have hc := costV_b (lens_of hv hi) (lens_of hv hjl) 0 0
    rw [show K + (d + 1) + 1 = (K + d + 1) + 1 by omega]
    simp only [spec_BestLog.l1]
    rw [if_pos (by omega), w64 (n := (j : Int) + 1) (by omega) (by omega)]
    by_cases hji : j = i
    · rw [if_pos (by omega), ← e, sumB, if_pos hji]
      rfl
    · rw [if_neg (by omega), if_pos (by omega), if_pos (by omega), if_pos (by omega), specCosts_eq (lens_of hv hi) (lens_of hv hjl) (by omega)]
      simp only [Option.bind_some]
      have t := tab00 (m := (rd_L5 l (i : Int)).length) (n := (rd_L5 l (j : Int)).length) (V := costV (rd_L5 l (i : Int)) (rd_L5 l (j : Int)))
      have t1 := tab_len (m := (rd_L5 l (i : Int)).length) (n := (rd_L5 l (j : Int)).length) (V := costV (rd_L5 l (i : Int)) (rd_L5 l (j : Int)))
      rw [if_pos (by omega)] at t ⊢
      split at t
      · rename_i h3
        rw [if_pos h3]
        simp only [Option.some.injEq, Prod.mk.injEq, and_true] at t
        rw [t, w64 (by omega) (by omega), ← e, sumB, if_neg hji]
        rfl
      · cases t
theorem specBest_all {l : Gs} (hv : ∀ x ∈ l, validG x = true) (hl : l.length ≤ 8) : ∀ d i p K, i + d = l.length → 100001 + d * 12 ≤ K → spec_BestLog.l0 K l p.1 p.2 (i : Int) = some ((bstGo l d i p).1, (bstGo l d i p).2, 0) := by
  intro d
  induction d with
  | zero =>
    intro i p K hi hK
    obtain ⟨K, rfl⟩ : ∃ m, K = m + 1 := ⟨K - 1, by omega⟩
    simp only [spec_BestLog.l0, bstGo]
    rw [if_neg (by omega)]
  | succ d ih =>
    intro i p K hi hK
    obtain ⟨K, rfl⟩ : ∃ m, K = m + l.length + 1 + 1 := ⟨K - l.length - 2, by omega⟩
    have e := specBest_in hv hl (i := i) (by omega) p K (by omega) l.length 0 (by omega)
    simp only [spec_BestLog.l0, bstGo]
    rw [if_pos (by omega)]
    rw [show ((0 : Nat) : Int) = 0 from rfl, show sumB l i 0 = 0 from rfl] at e
    rw [e]
    exact ih (i + 1) _ K (by omega) (by omega)
def resBest (l : Gs) : Int × Int × Int := if codeL l = 0 then ((bstGo l l.length 0 (0, -1)).1, (bstGo l l.length 0 (0, -1)).2, 0) else (0, 0, codeL l)
theorem implBestLog_eq {k : Nat} {l : Gs} (hi : ∀ x ∈ l, x.length ≤ 1048576) (hk : 2200000 < k) : impl_BestLog.f k l = some (resBest l) := by
  unfold impl_BestLog.f resBest
  rw [implAllCode hi]
  simp only [Option.bind_some]
  by_cases hc : codeL l = 0
  · obtain ⟨hv, h1, h8⟩ := codeL_valid hc
    rw [if_pos hc, if_pos hc]
    exact implBest_all hv h8 l.length 0 (0, -1) k (by omega) (by omega)
  · rw [if_neg hc, if_neg hc]
theorem specBestLog_eq {k : Nat} {l : Gs} (hl : l.length ≤ 1048576) (hk : 2200000 < k) : spec_BestLog.f k l = some (resBest l) := by
  unfold spec_BestLog.f resBest
  rw [specLogs hl (by omega)]
  simp only [Option.bind_some]
  by_cases hc : codeL l = 0
  · obtain ⟨hv, h1, h8⟩ := codeL_valid hc
    rw [if_pos hc, if_pos hc]
    exact specBest_all hv h8 l.length 0 (0, -1) k (by omega) (by omega)
  · rw [if_neg hc, if_neg hc]
end Go.Proofs.Ytidkniacmcbgiaa.G.Pure
end

section
namespace Go.Proofs.Ytidkniacmcbgiaa.G.Pure
open Go.RowKit Go.Proofs.Ytidkniacmcbgiaa.G Go.Proofs.YtidkniacmcbgiaaW.PrintWords Go.Proofs.YtidkniacmcbgiaaW.PrintLast Go.Proofs.YtidkniacmcbgiaaW.PrintMore
set_option linter.unusedVariables false
set_option linter.unusedSimpArgs false
theorem FnExactBestLog (l0 : List (List (S75))) (h00 : l0.length ≤ 9223372036854775807) (h01 : (∀ x ∈ l0, (x.length ≤ 9223372036854775807 ∧ ∀ x_ ∈ x, (Lit.int .i64 x_.f0).wf = true ∧ (Lit.int .i64 x_.f1).wf = true ∧ True))) : ∃ k, laws_FnExactBestLog.f k l0 = some true := by
  obtain ⟨k, hk⟩ : ∃ k, 3000000 < k := ⟨_, Nat.lt_succ_self _⟩
  refine ⟨k + 2, ?_⟩
  obtain ⟨n, hn, hc⟩ := szLogS_ok (k := k + 2) h00 (fun x hx => (h01 x hx).1) (by omega)
  unfold laws_FnExactBestLog.f
  rw [hn]
  simp only [Option.bind_some]
  rcases hc with hc | ⟨hn0, hl, hi⟩
  · rw [if_pos hc]
  · rw [if_neg hn0]
    obtain ⟨hL, hI⟩ := logsOf_len hl hi
    have e1 := fun j => toLogS_eq (k := k + j) hl hi (by omega)
    have q1 := fun j => eqLogS_self (k := k + j) hL hI (by omega)
    have s1 := fun j => specBestLog_eq (k := k + j) hL (by omega)
    have i1 := fun j => implBestLog_eq (k := k + j) hI (by omega)
    generalize resBest (logsOf l0) = res at *
    simp [laws_FnExactBestLog.j0, e1, q1, s1, i1]
end Go.Proofs.Ytidkniacmcbgiaa.G.Pure
end
