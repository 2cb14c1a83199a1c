/- The law's functions, their contracts, and the plain lemmas: texts of this claim, laid together. -/
import Derived.Lib.ItoaNum
import Derived.Lib.ParseIntB
import Derived.Lib.Atoi
import Derived.Lib.SplitLaws
import Derived.Lib.Join
import Derived.Test.YtmcfbnglocojkaaDoorMFnExactReadLog0
section
namespace Go.Proofs.YtmcfbnglocojkaaDoor.G
open Go.RowKit Go.Proofs.YtmcfbnglocojkaaDoorW.PrintWords Go.Proofs.YtmcfbnglocojkaaDoorW.PrintLast Go.Proofs.YtmcfbnglocojkaaDoorW.PrintMore
attribute [local go_sem] max2_int min2_int max_two min_two max_three min_three max_four min_four
set_option linter.unusedVariables false
set_option linter.unusedSimpArgs false
mutual
def spec_l07Up.l0 : Nat → List (S34) → Int → List Int → Int → Option (List Int × Bool)
 | 0,_,_,_,_ => none
 | k + 1,x0,x1,x6,x7 => if x7 < x1 then (spec_l07Up.l1 k x0 x1 x6 x7 (-1) 0) else (some (x6,true))
def spec_l07Up.l1 : Nat → List (S34) → Int → List Int → Int → Int → Int → Option (List Int × Bool)
 | 0,_,_,_,_,_,_ => none
 | k + 1,x0,x1,x6,x7,x8,x9 => if x9 < (x6.length : Int) then (if 0 ≤ x9 then (if 0 ≤ (rd x6 x9) then (if (rd x6 x9) < (x0.length : Int) then (if 0 ≤ x7 then (if x7 < (x0.length : Int) then (if ((rd_T34 x0 (rd x6 x9)).f1) = ((rd_T34 x0 x7).f1) then (spec_l07Up.l1 k x0 x1 x6 x7 x9 (wrap64 (x9 + 1))) else (spec_l07Up.l1 k x0 x1 x6 x7 x8 (wrap64 (x9 + 1)))) else (none)) else (none)) else (none)) else (none)) else (none)) else (if 0 ≤ x7 then (if x7 < (x0.length : Int) then (if (((rd_T34 x0 x7).f2) != (decide (x8 ≥ 0))) = true then (some ((([] : List Int)),false)) else (if x8 < 0 then (if x6.length < 17592186044416 then (spec_l07Up.l0 k x0 x1 (x6 ++ [x7]) (wrap64 (x7 + 1))) else (none)) else ((some (([] : List Int) : List Int)).bind fun y114 => (if 0 ≤ x8 then (if x8 ≤ (x6.length : Int) then ((some (x6.take (x8 : Int).toNat : List Int)).bind fun y117 => (if y114.length + y117.length < 17592186044416 then ((some (y114 ++ y117 : List Int)).bind fun y121 => (if 0 ≤ (wrap64 (x8 + 1)) then (if (wrap64 (x8 + 1)) ≤ (x6.length : Int) then ((some (x6.drop ((wrap64 (x8 + 1)) : Int).toNat : List Int)).bind fun y124 => (if y121.length + y124.length < 17592186044416 then (spec_l07Up.l0 k x0 x1 (y121 ++ y124) (wrap64 (x7 + 1))) else (none))) else (none)) else (none))) else (none))) else (none)) else (none))))) else (none)) else (none))
end
def spec_l07Up.f (k : Nat) (l0 : List (S34)) (a1 : Int) : Option (List Int × Bool) := spec_l07Up.l0 k l0 a1 (([] : List Int)) 0
def spec_l07Up.T9 : Bool × List (List Nat × List Nat) := (true,[([],[]),([],[]),([],[]),([1,2],[1,2]),([3],[3]),([0,4],[0,4]),([5],[5]),([6],[6]),([],[]),([],[]),([8,9],[8,9]),([10],[10]),([11],[11]),([7,12],[7,12])])
def spec_l07Up.B9 : List Nat := [0,0,0,6,14,31,63,127,0,0,768,1792,3840,8191]
theorem spec_l07Up.tab9 : rtab .any (opsOf Tryd.f19 9) = spec_l07Up.T9 := by kernel_rfl
theorem spec_l07Up.bits9 : waitsOk spec_l07Up.T9.2 spec_l07Up.B9 = true := by kernel_rfl
def spec_l07Up.T15 : Bool × List (List Nat × List Nat) := (true,[([],[]),([],[]),([],[]),([1,2],[1,2]),([0,3],[0,3]),([],[]),([],[]),([6],[6]),([5,7],[5,7]),([4,8,4],[4,8]),([9,9,0,1,2,3,4,5,6,7,8,9],[1,5,9])])
def spec_l07Up.B15 : List Nat := [0,0,0,6,15,0,0,64,224,511,1023]
theorem spec_l07Up.tab15 : rtab .any (opsOf Tryd.f19 15) = spec_l07Up.T15 := by kernel_rfl
theorem spec_l07Up.bits15 : waitsOk spec_l07Up.T15.2 spec_l07Up.B15 = true := by kernel_rfl
set_option maxHeartbeats 8000000 in
set_option maxRecDepth 100000 in
theorem spec_l07Up.calls (k : Nat) (A0 : Option Addr) (c0 : Nat) (l0 : List (S34)) (a1 : Int) (r1 : List Int) (r2 : Bool) (w : World) (hr0 : Kd.C k34 w A0 l0.length l0) (hc0 : l0.length ≤ c0) (h : spec_l07Up.f k l0 a1 = some (r1,r2)) :
  Calls Tryd.prog 19 #[.slice A0 l0.length c0,.int .i64 a1] w fun e w' => ∃ v0_ : Value,e = .returned (.tuple #[v0_,.bool r2]) ∧ Kd.R (Kd.int .i64) 3 w' w.heap.size (fun _ => True) v0_ r1 ∧ Below w.heap.size w w' := by
 have HR0 := Aside0.mk hr0;have HC0 := Aside0.mk hc0;clear hr0 hc0;have HB := Aside0.mk (Below.refl w.heap.size w);have H : (spec_l07Up.l0 k l0 a1 (([] : List Int)) 0) = some (r1,r2) := h;clear h;obtain ⟨y101,hy101⟩ : ∃ y_ : List Int,y_ = (([] : List Int)) := ⟨_,rfl⟩
 replace H : (spec_l07Up.l0 k l0 a1 y101 0) = some (r1,r2) := by first | (rw [hy101];with_reducible exact H) | (have H2_ := (Option.bind_some _ _).symm.trans H;rw [hy101];with_reducible exact H2_) | (have H2_ := (Option.bind_some _ _).symm.trans H;with_reducible exact H2_) | with_reducible exact H | (rw [hy101];exact H) | exact H
 have Ny101 := Aside0.mk hy101;clear hy101;have H' := Aside0.mk H;clear H
 go_enter Tryd.func19,Tryd.ntmps19
 go_wp2_with (first | ((with_reducible refine gate_dst (N := 10) rfl ?_);refine Kd.R_lit (Kd.int .i64) _ 3 ?hg (N := 10) ?hd (xs := ([] : List Int)) (inner := []) (ok := fun _ => True) (okp := fun _ => True) ?hr ?hp (fun _ hk => hk) trivial (Below.refl _ _) (Nat.le_refl _) (by simp) ?_;(case hd => rfl);(case hg => rfl);(case hr => first | (go_simp;done) | (go_simp;rfl));(case hp => exact (Reps.none _ _));intro v102 w3 ho4 hb hg_ hnew_;clear hg_ hnew_;(first | rw [← Ny101.out] at ho4 | (simp only [Int.reduceToNat] at ho4;rw [← Ny101.out] at ho4));have n0_ := Aside0.mk (Kd.R_lower ho4 (below_size (by repeat (first | (with_reducible first | exact HB.out | apply below_alloc | apply pw_below_drewN | apply below_drew1) | exact HB.out))));have n1_ := Aside0.mk (below_step (by repeat (first | (with_reducible first | exact HB.out | apply below_alloc | apply pw_below_drewN | apply below_drew1) | exact HB.out)) hb);clear HB;have HO103 := n0_;have HB := n1_;clear n0_ n1_;clear hb ho4))
 go_loopg [6,7] k (fun kq v6 v7 w' => ∃ (x6_1 : List Int) (x7_1 : Int),v7 = .int .i64 x7_1 ∧ Aside0 (spec_l07Up.l0 kq l0 a1 x6_1 x7_1 = some (r1,r2)) ∧ Aside0 (kq ≤ k) ∧ Aside0 (Kd.R (Kd.int .i64) 3 w' w.heap.size (fun _ => True) v6 x6_1) ∧ Aside0 (Below w.heap.size w w'))
 case atStart => exact ⟨(y101),(0),(by first | rfl | (simp only [IntKind.wrap_i64,wrap64];done) | (simp;done) | (simp [*];done)),H',⟨Nat.le_refl _⟩,⟨by (with_reducible repeat (first | apply Kd.R_alloc | apply Kd.R_drewN | apply Kd.R_drew));exact HO103.out⟩,⟨by repeat (first | (with_reducible first | exact HB.out | apply below_alloc | apply pw_below_drewN | apply below_drew1) | exact HB.out)⟩⟩
 case round =>
  clear H';(try clear c1);(try clear p2);obtain ⟨x6_1,x7_1,rfl,HA,HK1,HO_6,HB⟩ := hrel
  cases gk with
  | zero => exact absurd HA.out (by simp [spec_l07Up.l0])
  | succ k1 =>
   have H := HA.out;clear HA;simp only [spec_l07Up.l0] at H
   by_cases c5 : x7_1 < a1
   ·rw [if_pos c5] at H;have c5b0 : decide (x7_1 < a1) = true := decide_eq_true c5;clear c5;have H' := Aside0.mk H;clear H
    go_wp2
    go_loopg [8,9] k1 (fun kq v8 v9 w' => ∃ (x8_2 : Int) (x9_2 : Int),v8 = .int .i64 x8_2 ∧ v9 = .int .i64 x9_2 ∧ Aside0 (spec_l07Up.l1 kq l0 a1 x6_1 x7_1 x8_2 x9_2 = some (r1,r2)) ∧ Aside0 (kq ≤ k1) ∧ Aside0 (Kd.R (Kd.int .i64) 3 w' w.heap.size (fun _ => True) u6 x6_1) ∧ Aside0 (Below w.heap.size w w'))
    case atStart => exact ⟨((-1)),(0),(by first | rfl | (simp only [IntKind.wrap_i64,wrap64];done) | (simp;done) | (simp [*];done)),(by first | rfl | (simp only [IntKind.wrap_i64,wrap64];done) | (simp;done) | (simp [*];done)),H',⟨Nat.le_refl _⟩,⟨by (with_reducible repeat (first | apply Kd.R_alloc | apply Kd.R_drewN | apply Kd.R_drew));exact HO_6.out⟩,⟨by repeat (first | (with_reducible first | exact HB.out | apply below_alloc | apply pw_below_drewN | apply below_drew1) | exact HB.out)⟩⟩
    case round =>
     clear H';(try clear c1);(try clear p2);(try clear c5);(try clear c5b0);(try clear p2);obtain ⟨x8_2,x9_2,rfl,rfl,HA,HK2,HO_6,HB⟩ := hrel
     cases gk with
     | zero => exact absurd HA.out (by simp [spec_l07Up.l1])
     | succ k2 =>
      have H := HA.out;clear HA;simp only [spec_l07Up.l1] at H
      by_cases c6 : x9_2 < (x6_1.length : Int)
      ·rw [if_pos c6] at H;have c6b0 : decide (x9_2 < (x6_1.length : Int)) = true := decide_eq_true c6;clear c6
       by_cases c7 : 0 ≤ x9_2
       ·rw [if_pos c7] at H;have c7b0 : decide (0 ≤ x9_2) = true := decide_eq_true c7;clear c7
        by_cases c8 : 0 ≤ (rd x6_1 x9_2)
        ·rw [if_pos c8] at H;have c8b0 : decide (0 ≤ (rd x6_1 x9_2)) = true := decide_eq_true c8;clear c8
         by_cases c9 : (rd x6_1 x9_2) < (l0.length : Int)
         ·rw [if_pos c9] at H;have c9b0 : decide ((rd x6_1 x9_2) < (l0.length : Int)) = true := decide_eq_true c9;clear c9
          by_cases c10 : 0 ≤ x7_1
          ·rw [if_pos c10] at H;have c10b0 : decide (0 ≤ x7_1) = true := decide_eq_true c10;clear c10
           by_cases c11 : x7_1 < (l0.length : Int)
           ·rw [if_pos c11] at H;have c11b0 : decide (x7_1 < (l0.length : Int)) = true := decide_eq_true c11;clear c11
            by_cases c12 : ((rd_T34 l0 (rd x6_1 x9_2)).f1) = ((rd_T34 l0 x7_1).f1)
            ·rw [if_pos c12] at H;have c12b0 : (((rd_T34 l0 (rd x6_1 x9_2)).f1) == ((rd_T34 l0 x7_1).f1)) = true := beq_iff_eq.mpr c12;have c12b1 : (((rd_T34 l0 (rd x6_1 x9_2)).f1) != ((rd_T34 l0 x7_1).f1)) = false := bne_eq_false_iff_eq.mpr c12;clear c12;have H' := Aside0.mk H;clear H;obtain ⟨Ao13,co13,eo13⟩ := Kd.R_slice HO_6.out;subst eo13;(try go_wp2);have n0_ := Aside0.mk (Kd.R_drew HO_6.out);have n1_ := Aside0.mk (below_drew1 HB.out);clear HO_6;clear HB;have HO_6 := n0_;have HB := n1_;clear n0_ n1_;have p104 : 0 ≤ (x9_2 : Int) := of_decide_eq_true (by first | (with_reducible assumption) | assumption);have q104 : x9_2 < (x6_1.length : Int) := of_decide_eq_true (by first | (with_reducible assumption) | assumption);obtain ⟨ad104,e104,hx104_0⟩ := Kd.at_int (Kd.R_reads' HO_6.out).2.2 x9_2 p104 q104;cases e104;replace p104 := eq_true p104;replace q104 := eq_true q104;have p105 : 0 ≤ ((rd x6_1 x9_2) : Int) := of_decide_eq_true (by first | (with_reducible assumption) | assumption);have q105 : (rd x6_1 x9_2) < (l0.length : Int) := of_decide_eq_true (by first | (with_reducible assumption) | assumption);obtain ⟨ad105,e105,hx105_0,hx105_1,hx105_2⟩ := at_T34 HR0.out (rd x6_1 x9_2) p105 q105;have hw105_2 := hx105_2;have hw105_1 := hx105_1;have hw105_0 := hx105_0;cases e105;replace hx105_0 := (HB.out.cell (World.block_lt_of_cell? w _ hx105_0)).trans hx105_0;replace hx105_1 := (HB.out.cell (World.block_lt_of_cell? w _ hx105_1)).trans hx105_1;replace hx105_2 := (HB.out.cell (World.block_lt_of_cell? w _ hx105_2)).trans hx105_2;replace p105 := eq_true p105;replace q105 := eq_true q105;have p106 : 0 ≤ (x7_1 : Int) := of_decide_eq_true (by first | (with_reducible assumption) | assumption);have q106 : x7_1 < (l0.length : Int) := of_decide_eq_true (by first | (with_reducible assumption) | assumption);obtain ⟨ad106,e106,hx106_0,hx106_1,hx106_2⟩ := at_T34 HR0.out x7_1 p106 q106;have hw106_2 := hx106_2;have hw106_1 := hx106_1;have hw106_0 := hx106_0;obtain rfl : ad105 = ad106 := (by injection e106);replace hx106_0 := (HB.out.cell (World.block_lt_of_cell? w _ hx106_0)).trans hx106_0;replace hx106_1 := (HB.out.cell (World.block_lt_of_cell? w _ hx106_1)).trans hx106_1;replace hx106_2 := (HB.out.cell (World.block_lt_of_cell? w _ hx106_2)).trans hx106_2;replace p106 := eq_true p106;replace q106 := eq_true q106;refine start_ (n := 14) (S := fun w' => w'.cell? (ad104.add (x9_2).toNat) = some (.int .i64 (rd x6_1 x9_2)) ∧ w'.cell? (ad105.add (((rd x6_1 x9_2)).toNat * 3)) = some (.int .i64 ((rd_T34 l0 (rd x6_1 x9_2)).f0)) ∧ w'.cell? ⟨(ad105.add (((rd x6_1 x9_2)).toNat * 3)).block,(ad105.add (((rd x6_1 x9_2)).toNat * 3)).off + 1,none⟩ = some (.int .i64 ((rd_T34 l0 (rd x6_1 x9_2)).f1)) ∧ w'.cell? ⟨(ad105.add (((rd x6_1 x9_2)).toNat * 3)).block,(ad105.add (((rd x6_1 x9_2)).toNat * 3)).off + 2,none⟩ = some (.bool ((rd_T34 l0 (rd x6_1 x9_2)).f2)) ∧ w'.cell? (ad105.add ((x7_1).toNat * 3)) = some (.int .i64 ((rd_T34 l0 x7_1).f0)) ∧ w'.cell? ⟨(ad105.add ((x7_1).toNat * 3)).block,(ad105.add ((x7_1).toNat * 3)).off + 1,none⟩ = some (.int .i64 ((rd_T34 l0 x7_1).f1)) ∧ w'.cell? ⟨(ad105.add ((x7_1).toNat * 3)).block,(ad105.add ((x7_1).toNat * 3)).off + 2,none⟩ = some (.bool ((rd_T34 l0 x7_1).f2))) (ds := []) #[false,false,false,false,false,false,false,false,false,false,false,false,false,false] (by kernel_rfl) rfl rfl ⟨hx104_0,((HB.out.cell (World.block_lt_of_cell? w _ hw105_0)).trans hw105_0),((HB.out.cell (World.block_lt_of_cell? w _ hw105_1)).trans hw105_1),((HB.out.cell (World.block_lt_of_cell? w _ hw105_2)).trans hw105_2),((HB.out.cell (World.block_lt_of_cell? w _ hw106_0)).trans hw106_0),((HB.out.cell (World.block_lt_of_cell? w _ hw106_1)).trans hw106_1),((HB.out.cell (World.block_lt_of_cell? w _ hw106_2)).trans hw106_2)⟩ (fun hHeld => ?_);refine with_tabW spec_l07Up.tab9 spec_l07Up.bits9 (fun HT_ HW_ => ?_);generalize wr.drew = w14 at HO_6 HB hx104_0 hx105_0 hx105_1 hx105_2 hx106_0 hx106_1 hx106_2 hHeld ⊢;refine pure_ (i := 0) (N := some 22) (v := ?_) (a' := ?_) #[true,false,false,false,false,false,false,false,false,false,false,false,false,false] rfl rfl (any_of HT_.out (by kernel_rfl)) (fun _ _ _ h => h) (Or.inl ⟨by rfl,?_⟩) ?_ ?_;rotate_left
             ·intro w';go_simp;with_reducible rfl
             rotate_left
             ·simp only [Act.put,List.setIfInBounds_toArray,List.set_cons_zero,List.set_cons_succ,i64_w,i32_w];rfl
             refine pure_ (i := 1) (N := some 23) (v := ?_) (a' := ?_) #[true,true,false,false,false,false,false,false,false,false,false,false,false,false] rfl rfl (any_of HT_.out (by kernel_rfl)) (fun _ _ _ h => h) (Or.inl ⟨by rfl,?_⟩) ?_ ?_;rotate_left
             ·intro w';go_simp;with_reducible rfl
             rotate_left
             ·simp only [Act.put,List.setIfInBounds_toArray,List.set_cons_zero,List.set_cons_succ,i64_w,i32_w];rfl
             refine pure_ (i := 2) (N := some 24) (v := ?_) (a' := ?_) #[true,true,true,false,false,false,false,false,false,false,false,false,false,false] rfl rfl (any_of HT_.out (by kernel_rfl)) (fun _ _ _ h => h) (Or.inl ⟨by rfl,?_⟩) ?_ ?_;rotate_left
             ·intro w';go_simp;with_reducible rfl
             rotate_left
             ·simp only [Act.put,List.setIfInBounds_toArray,List.set_cons_zero,List.set_cons_succ,i64_w,i32_w];rfl
             refine pure_ (i := 3) (N := some 25) (v := ?_) (a' := ?_) #[true,true,true,true,false,false,false,false,false,false,false,false,false,false] rfl rfl (any_of HT_.out (by kernel_rfl)) (fun _ _ _ h => h) (Or.inl ⟨by rfl,?_⟩) ?_ ?_;rotate_left
             ·intro w';go_simp;with_reducible rfl
             rotate_left
             ·simp only [Act.put,List.setIfInBounds_toArray,List.set_cons_zero,List.set_cons_succ,i64_w,i32_w];rfl
             refine pure_ (i := 8) (N := some 30) (v := ?_) (a' := ?_) #[true,true,true,true,false,false,false,false,true,false,false,false,false,false] rfl rfl (any_of HT_.out (by kernel_rfl)) (fun _ _ _ h => h) (Or.inl ⟨by rfl,?_⟩) ?_ ?_;rotate_left
             ·intro w';go_simp;with_reducible rfl
             rotate_left
             ·simp only [Act.put,List.setIfInBounds_toArray,List.set_cons_zero,List.set_cons_succ,i64_w,i32_w];rfl
             refine pure_ (i := 9) (N := some 31) (v := ?_) (a' := ?_) #[true,true,true,true,false,false,false,false,true,true,false,false,false,false] rfl rfl (any_of HT_.out (by kernel_rfl)) (fun _ _ _ h => h) (Or.inl ⟨by rfl,?_⟩) ?_ ?_;rotate_left
             ·intro w';go_simp;with_reducible rfl
             rotate_left
             ·simp only [Act.put,List.setIfInBounds_toArray,List.set_cons_zero,List.set_cons_succ,i64_w,i32_w];rfl
             refine pure_ (i := 10) (N := some 32) (v := ?_) (a' := ?_) #[true,true,true,true,false,false,false,false,true,true,true,false,false,false] rfl rfl (any_of HT_.out (by kernel_rfl)) (fun _ _ _ h => h) (Or.inl ⟨by rfl,?_⟩) ?_ ?_;rotate_left
             ·intro w';go_simp;with_reducible rfl
             rotate_left
             ·simp only [Act.put,List.setIfInBounds_toArray,List.set_cons_zero,List.set_cons_succ,i64_w,i32_w];rfl
             refine pure_ (i := 11) (N := some 33) (v := ?_) (a' := ?_) #[true,true,true,true,false,false,false,false,true,true,true,true,false,false] rfl rfl (any_of HT_.out (by kernel_rfl)) (fun _ _ _ h => h) (Or.inl ⟨by rfl,?_⟩) ?_ ?_;rotate_left
             ·intro w';go_simp;with_reducible rfl
             rotate_left
             ·simp only [Act.put,List.setIfInBounds_toArray,List.set_cons_zero,List.set_cons_succ,i64_w,i32_w];rfl
             refine take_ (i := 4) (N := some 26) (v := ?_) (a' := ?_) #[true,true,true,true,true,false,false,false,true,true,true,true,false,false] rfl rfl (take_ofW HT_.out HW_.out (by kernel_rfl)) (fun _ _ _ h => h) (Or.inl ⟨by rfl,?_⟩) hHeld ?_ ?_;rotate_left
             ·rintro w' ⟨s0,s1,s2,s3,s4,s5,s6⟩
              go_simp;with_reducible rfl
             rotate_left
             ·simp only [Act.put,List.setIfInBounds_toArray,List.set_cons_zero,List.set_cons_succ,i64_w,i32_w];rfl
             refine pure_ (i := 5) (N := some 27) (v := ?_) (a' := ?_) #[true,true,true,true,true,true,false,false,true,true,true,true,false,false] rfl rfl (any_of HT_.out (by kernel_rfl)) (fun _ _ _ h => h) (Or.inl ⟨by rfl,?_⟩) ?_ ?_;rotate_left
             ·intro w';go_simp;with_reducible rfl
             rotate_left
             ·simp only [Act.put,List.setIfInBounds_toArray,List.set_cons_zero,List.set_cons_succ,i64_w,i32_w];rfl
             refine pure_ (i := 6) (N := some 28) (v := ?_) (a' := ?_) #[true,true,true,true,true,true,true,false,true,true,true,true,false,false] rfl rfl (any_of HT_.out (by kernel_rfl)) (fun _ _ _ h => h) (Or.inl ⟨by rfl,?_⟩) ?_ ?_;rotate_left
             ·intro w';go_simp;with_reducible rfl
             rotate_left
             ·simp only [Act.put,List.setIfInBounds_toArray,List.set_cons_zero,List.set_cons_succ,i64_w,i32_w];rfl
             refine take_ (i := 7) (N := some 29) (v := ?_) (a' := ?_) #[true,true,true,true,true,true,true,true,true,true,true,true,false,false] rfl rfl (take_ofW HT_.out HW_.out (by kernel_rfl)) (fun _ _ _ h => h) (Or.inl ⟨by rfl,?_⟩) hHeld ?_ ?_;rotate_left
             ·rintro w' ⟨s0,s1,s2,s3,s4,s5,s6⟩
              go_simp;with_reducible rfl
             rotate_left
             ·simp only [Act.put,List.setIfInBounds_toArray,List.set_cons_zero,List.set_cons_succ,i64_w,i32_w];rfl
             refine take_ (i := 12) (N := some 34) (v := ?_) (a' := ?_) #[true,true,true,true,true,true,true,true,true,true,true,true,true,false] rfl rfl (take_ofW HT_.out HW_.out (by kernel_rfl)) (fun _ _ _ h => h) (Or.inl ⟨by rfl,?_⟩) hHeld ?_ ?_;rotate_left
             ·rintro w' ⟨s0,s1,s2,s3,s4,s5,s6⟩
              go_simp;with_reducible rfl
             rotate_left
             ·simp only [Act.put,List.setIfInBounds_toArray,List.set_cons_zero,List.set_cons_succ,i64_w,i32_w];rfl
             refine pure_ (i := 13) (N := some 35) (v := ?_) (a' := ?_) #[true,true,true,true,true,true,true,true,true,true,true,true,true,true] rfl rfl (any_of HT_.out (by kernel_rfl)) (fun _ _ _ h => h) (Or.inl ⟨by rfl,?_⟩) ?_ ?_;rotate_left
             ·intro w';go_simp;with_reducible rfl
             rotate_left
             ·simp only [Act.put,List.setIfInBounds_toArray,List.set_cons_zero,List.set_cons_succ,i64_w,i32_w];rfl
             refine done_ (done_of HT_.out (by kernel_rfl)) ?_;(try go_wp2)
             go_roundg k2
             case measure => have := HK1.out;have := HK2.out;omega
             case rel => exact ⟨(x9_2),(wrap64 (x9_2 + 1)),(by first | rfl | (simp only [IntKind.wrap_i64,wrap64];done) | (simp;done) | (simp [*];done)),(by first | rfl | (simp only [IntKind.wrap_i64,wrap64];done) | (simp;done) | (simp [*];done)),H',⟨by have := HK1.out;have := HK2.out;omega⟩,⟨by (with_reducible repeat (first | apply Kd.R_alloc | apply Kd.R_drewN | apply Kd.R_drew));exact HO_6.out⟩,⟨by repeat (first | (with_reducible first | exact HB.out | apply below_alloc | apply pw_below_drewN | apply below_drew1) | exact HB.out)⟩⟩
            ·rw [if_neg c12] at H;have c12b0 : (((rd_T34 l0 (rd x6_1 x9_2)).f1) == ((rd_T34 l0 x7_1).f1)) = false := beq_eq_false_iff_ne.mpr c12;have c12b1 : (((rd_T34 l0 (rd x6_1 x9_2)).f1) != ((rd_T34 l0 x7_1).f1)) = true := bne_iff_ne.mpr c12;have H' := Aside0.mk H;clear H;obtain ⟨Ao15,co15,eo15⟩ := Kd.R_slice HO_6.out;subst eo15;(try go_wp2);have n0_ := Aside0.mk (Kd.R_drew HO_6.out);have n1_ := Aside0.mk (below_drew1 HB.out);clear HO_6;clear HB;have HO_6 := n0_;have HB := n1_;clear n0_ n1_;have p104 : 0 ≤ (x9_2 : Int) := of_decide_eq_true (by first | (with_reducible assumption) | assumption);have q104 : x9_2 < (x6_1.length : Int) := of_decide_eq_true (by first | (with_reducible assumption) | assumption);obtain ⟨ad104,e104,hx104_0⟩ := Kd.at_int (Kd.R_reads' HO_6.out).2.2 x9_2 p104 q104;cases e104;replace p104 := eq_true p104;replace q104 := eq_true q104;have p105 : 0 ≤ ((rd x6_1 x9_2) : Int) := of_decide_eq_true (by first | (with_reducible assumption) | assumption);have q105 : (rd x6_1 x9_2) < (l0.length : Int) := of_decide_eq_true (by first | (with_reducible assumption) | assumption);obtain ⟨ad105,e105,hx105_0,hx105_1,hx105_2⟩ := at_T34 HR0.out (rd x6_1 x9_2) p105 q105;have hw105_2 := hx105_2;have hw105_1 := hx105_1;have hw105_0 := hx105_0;cases e105;replace hx105_0 := (HB.out.cell (World.block_lt_of_cell? w _ hx105_0)).trans hx105_0;replace hx105_1 := (HB.out.cell (World.block_lt_of_cell? w _ hx105_1)).trans hx105_1;replace hx105_2 := (HB.out.cell (World.block_lt_of_cell? w _ hx105_2)).trans hx105_2;replace p105 := eq_true p105;replace q105 := eq_true q105;have p106 : 0 ≤ (x7_1 : Int) := of_decide_eq_true (by first | (with_reducible assumption) | assumption);have q106 : x7_1 < (l0.length : Int) := of_decide_eq_true (by first | (with_reducible assumption) | assumption);obtain ⟨ad106,e106,hx106_0,hx106_1,hx106_2⟩ := at_T34 HR0.out x7_1 p106 q106;have hw106_2 := hx106_2;have hw106_1 := hx106_1;have hw106_0 := hx106_0;obtain rfl : ad105 = ad106 := (by injection e106);replace hx106_0 := (HB.out.cell (World.block_lt_of_cell? w _ hx106_0)).trans hx106_0;replace hx106_1 := (HB.out.cell (World.block_lt_of_cell? w _ hx106_1)).trans hx106_1;replace hx106_2 := (HB.out.cell (World.block_lt_of_cell? w _ hx106_2)).trans hx106_2;replace p106 := eq_true p106;replace q106 := eq_true q106;refine start_ (n := 14) (S := fun w' => w'.cell? (ad104.add (x9_2).toNat) = some (.int .i64 (rd x6_1 x9_2)) ∧ w'.cell? (ad105.add (((rd x6_1 x9_2)).toNat * 3)) = some (.int .i64 ((rd_T34 l0 (rd x6_1 x9_2)).f0)) ∧ w'.cell? ⟨(ad105.add (((rd x6_1 x9_2)).toNat * 3)).block,(ad105.add (((rd x6_1 x9_2)).toNat * 3)).off + 1,none⟩ = some (.int .i64 ((rd_T34 l0 (rd x6_1 x9_2)).f1)) ∧ w'.cell? ⟨(ad105.add (((rd x6_1 x9_2)).toNat * 3)).block,(ad105.add (((rd x6_1 x9_2)).toNat * 3)).off + 2,none⟩ = some (.bool ((rd_T34 l0 (rd x6_1 x9_2)).f2)) ∧ w'.cell? (ad105.add ((x7_1).toNat * 3)) = some (.int .i64 ((rd_T34 l0 x7_1).f0)) ∧ w'.cell? ⟨(ad105.add ((x7_1).toNat * 3)).block,(ad105.add ((x7_1).toNat * 3)).off + 1,none⟩ = some (.int .i64 ((rd_T34 l0 x7_1).f1)) ∧ w'.cell? ⟨(ad105.add ((x7_1).toNat * 3)).block,(ad105.add ((x7_1).toNat * 3)).off + 2,none⟩ = some (.bool ((rd_T34 l0 x7_1).f2))) (ds := []) #[false,false,false,false,false,false,false,false,false,false,false,false,false,false] (by kernel_rfl) rfl rfl ⟨hx104_0,((HB.out.cell (World.block_lt_of_cell? w _ hw105_0)).trans hw105_0),((HB.out.cell (World.block_lt_of_cell? w _ hw105_1)).trans hw105_1),((HB.out.cell (World.block_lt_of_cell? w _ hw105_2)).trans hw105_2),((HB.out.cell (World.block_lt_of_cell? w _ hw106_0)).trans hw106_0),((HB.out.cell (World.block_lt_of_cell? w _ hw106_1)).trans hw106_1),((HB.out.cell (World.block_lt_of_cell? w _ hw106_2)).trans hw106_2)⟩ (fun hHeld => ?_);refine with_tabW spec_l07Up.tab9 spec_l07Up.bits9 (fun HT_ HW_ => ?_);generalize wr.drew = w16 at HO_6 HB hx104_0 hx105_0 hx105_1 hx105_2 hx106_0 hx106_1 hx106_2 hHeld ⊢;refine pure_ (i := 0) (N := some 22) (v := ?_) (a' := ?_) #[true,false,false,false,false,false,false,false,false,false,false,false,false,false] rfl rfl (any_of HT_.out (by kernel_rfl)) (fun _ _ _ h => h) (Or.inl ⟨by rfl,?_⟩) ?_ ?_;rotate_left
             ·intro w';go_simp;with_reducible rfl
             rotate_left
             ·simp only [Act.put,List.setIfInBounds_toArray,List.set_cons_zero,List.set_cons_succ,i64_w,i32_w];rfl
             refine pure_ (i := 1) (N := some 23) (v := ?_) (a' := ?_) #[true,true,false,false,false,false,false,false,false,false,false,false,false,false] rfl rfl (any_of HT_.out (by kernel_rfl)) (fun _ _ _ h => h) (Or.inl ⟨by rfl,?_⟩) ?_ ?_;rotate_left
             ·intro w';go_simp;with_reducible rfl
             rotate_left
             ·simp only [Act.put,List.setIfInBounds_toArray,List.set_cons_zero,List.set_cons_succ,i64_w,i32_w];rfl
             refine pure_ (i := 2) (N := some 24) (v := ?_) (a' := ?_) #[true,true,true,false,false,false,false,false,false,false,false,false,false,false] rfl rfl (any_of HT_.out (by kernel_rfl)) (fun _ _ _ h => h) (Or.inl ⟨by rfl,?_⟩) ?_ ?_;rotate_left
             ·intro w';go_simp;with_reducible rfl
             rotate_left
             ·simp only [Act.put,List.setIfInBounds_toArray,List.set_cons_zero,List.set_cons_succ,i64_w,i32_w];rfl
             refine pure_ (i := 3) (N := some 25) (v := ?_) (a' := ?_) #[true,true,true,true,false,false,false,false,false,false,false,false,false,false] rfl rfl (any_of HT_.out (by kernel_rfl)) (fun _ _ _ h => h) (Or.inl ⟨by rfl,?_⟩) ?_ ?_;rotate_left
             ·intro w';go_simp;with_reducible rfl
             rotate_left
             ·simp only [Act.put,List.setIfInBounds_toArray,List.set_cons_zero,List.set_cons_succ,i64_w,i32_w];rfl
             refine pure_ (i := 8) (N := some 30) (v := ?_) (a' := ?_) #[true,true,true,true,false,false,false,false,true,false,false,false,false,false] rfl rfl (any_of HT_.out (by kernel_rfl)) (fun _ _ _ h => h) (Or.inl ⟨by rfl,?_⟩) ?_ ?_;rotate_left
             ·intro w';go_simp;with_reducible rfl
             rotate_left
             ·simp only [Act.put,List.setIfInBounds_toArray,List.set_cons_zero,List.set_cons_succ,i64_w,i32_w];rfl
             refine pure_ (i := 9) (N := some 31) (v := ?_) (a' := ?_) #[true,true,true,true,false,false,false,false,true,true,false,false,false,false] rfl rfl (any_of HT_.out (by kernel_rfl)) (fun _ _ _ h => h) (Or.inl ⟨by rfl,?_⟩) ?_ ?_;rotate_left
             ·intro w';go_simp;with_reducible rfl
             rotate_left
             ·simp only [Act.put,List.setIfInBounds_toArray,List.set_cons_zero,List.set_cons_succ,i64_w,i32_w];rfl
             refine pure_ (i := 10) (N := some 32) (v := ?_) (a' := ?_) #[true,true,true,true,false,false,false,false,true,true,true,false,false,false] rfl rfl (any_of HT_.out (by kernel_rfl)) (fun _ _ _ h => h) (Or.inl ⟨by rfl,?_⟩) ?_ ?_;rotate_left
             ·intro w';go_simp;with_reducible rfl
             rotate_left
             ·simp only [Act.put,List.setIfInBounds_toArray,List.set_cons_zero,List.set_cons_succ,i64_w,i32_w];rfl
             refine pure_ (i := 11) (N := some 33) (v := ?_) (a' := ?_) #[true,true,true,true,false,false,false,false,true,true,true,true,false,false] rfl rfl (any_of HT_.out (by kernel_rfl)) (fun _ _ _ h => h) (Or.inl ⟨by rfl,?_⟩) ?_ ?_;rotate_left
             ·intro w';go_simp;with_reducible rfl
             rotate_left
             ·simp only [Act.put,List.setIfInBounds_toArray,List.set_cons_zero,List.set_cons_succ,i64_w,i32_w];rfl
             refine take_ (i := 4) (N := some 26) (v := ?_) (a' := ?_) #[true,true,true,true,true,false,false,false,true,true,true,true,false,false] rfl rfl (take_ofW HT_.out HW_.out (by kernel_rfl)) (fun _ _ _ h => h) (Or.inl ⟨by rfl,?_⟩) hHeld ?_ ?_;rotate_left
             ·rintro w' ⟨s0,s1,s2,s3,s4,s5,s6⟩
              go_simp;with_reducible rfl
             rotate_left
             ·simp only [Act.put,List.setIfInBounds_toArray,List.set_cons_zero,List.set_cons_succ,i64_w,i32_w];rfl
             refine pure_ (i := 5) (N := some 27) (v := ?_) (a' := ?_) #[true,true,true,true,true,true,false,false,true,true,true,true,false,false] rfl rfl (any_of HT_.out (by kernel_rfl)) (fun _ _ _ h => h) (Or.inl ⟨by rfl,?_⟩) ?_ ?_;rotate_left
             ·intro w';go_simp;with_reducible rfl
             rotate_left
             ·simp only [Act.put,List.setIfInBounds_toArray,List.set_cons_zero,List.set_cons_succ,i64_w,i32_w];rfl
             refine pure_ (i := 6) (N := some 28) (v := ?_) (a' := ?_) #[true,true,true,true,true,true,true,false,true,true,true,true,false,false] rfl rfl (any_of HT_.out (by kernel_rfl)) (fun _ _ _ h => h) (Or.inl ⟨by rfl,?_⟩) ?_ ?_;rotate_left
             ·intro w';go_simp;with_reducible rfl
             rotate_left
             ·simp only [Act.put,List.setIfInBounds_toArray,List.set_cons_zero,List.set_cons_succ,i64_w,i32_w];rfl
             refine take_ (i := 7) (N := some 29) (v := ?_) (a' := ?_) #[true,true,true,true,true,true,true,true,true,true,true,true,false,false] rfl rfl (take_ofW HT_.out HW_.out (by kernel_rfl)) (fun _ _ _ h => h) (Or.inl ⟨by rfl,?_⟩) hHeld ?_ ?_;rotate_left
             ·rintro w' ⟨s0,s1,s2,s3,s4,s5,s6⟩
              go_simp;with_reducible rfl
             rotate_left
             ·simp only [Act.put,List.setIfInBounds_toArray,List.set_cons_zero,List.set_cons_succ,i64_w,i32_w];rfl
             refine take_ (i := 12) (N := some 34) (v := ?_) (a' := ?_) #[true,true,true,true,true,true,true,true,true,true,true,true,true,false] rfl rfl (take_ofW HT_.out HW_.out (by kernel_rfl)) (fun _ _ _ h => h) (Or.inl ⟨by rfl,?_⟩) hHeld ?_ ?_;rotate_left
             ·rintro w' ⟨s0,s1,s2,s3,s4,s5,s6⟩
              go_simp;with_reducible rfl
             rotate_left
             ·simp only [Act.put,List.setIfInBounds_toArray,List.set_cons_zero,List.set_cons_succ,i64_w,i32_w];rfl
             refine pure_ (i := 13) (N := some 35) (v := ?_) (a' := ?_) #[true,true,true,true,true,true,true,true,true,true,true,true,true,true] rfl rfl (any_of HT_.out (by kernel_rfl)) (fun _ _ _ h => h) (Or.inl ⟨by rfl,?_⟩) ?_ ?_;rotate_left
             ·intro w';go_simp;with_reducible rfl
             rotate_left
             ·simp only [Act.put,List.setIfInBounds_toArray,List.set_cons_zero,List.set_cons_succ,i64_w,i32_w];rfl
             refine done_ (done_of HT_.out (by kernel_rfl)) ?_;(try go_wp2)
             go_roundg k2
             case measure => have := HK1.out;have := HK2.out;omega
             case rel => exact ⟨(x8_2),(wrap64 (x9_2 + 1)),(by first | rfl | (simp only [IntKind.wrap_i64,wrap64];done) | (simp;done) | (simp [*];done)),(by first | rfl | (simp only [IntKind.wrap_i64,wrap64];done) | (simp;done) | (simp [*];done)),H',⟨by have := HK1.out;have := HK2.out;omega⟩,⟨by (with_reducible repeat (first | apply Kd.R_alloc | apply Kd.R_drewN | apply Kd.R_drew));exact HO_6.out⟩,⟨by repeat (first | (with_reducible first | exact HB.out | apply below_alloc | apply pw_below_drewN | apply below_drew1) | exact HB.out)⟩⟩
           ·rw [if_neg c11] at H;exact absurd H (by simp)
          ·rw [if_neg c10] at H;exact absurd H (by simp)
         ·rw [if_neg c9] at H;exact absurd H (by simp)
        ·rw [if_neg c8] at H;exact absurd H (by simp)
       ·rw [if_neg c7] at H;exact absurd H (by simp)
      ·rw [if_neg c6] at H;have c6b0 : decide (x9_2 < (x6_1.length : Int)) = false := decide_eq_false c6;clear c6
       by_cases c17 : 0 ≤ x7_1
       ·rw [if_pos c17] at H;have c17b0 : decide (0 ≤ x7_1) = true := decide_eq_true c17;clear c17
        by_cases c18 : x7_1 < (l0.length : Int)
        ·rw [if_pos c18] at H;have c18b0 : decide (x7_1 < (l0.length : Int)) = true := decide_eq_true c18;clear c18
         by_cases c19 : (((rd_T34 l0 x7_1).f2) != (decide (x8_2 ≥ 0))) = true
         ·rw [if_pos c19] at H;have c19b0 : (((rd_T34 l0 x7_1).f2) != (decide (x8_2 ≥ 0))) = true := c19;(try (have c19b1 : decide (((rd_T34 l0 x7_1).f2) = (decide (x8_2 ≥ 0))) = false := by simpa using c19));(try (have c19b2 : (((rd_T34 l0 x7_1).f2) == (decide (x8_2 ≥ 0))) = false := by simpa using c19));(try (have c19b3 : ¬ (((rd_T34 l0 x7_1).f2) = (decide (x8_2 ≥ 0))) := by simpa using c19));clear c19;obtain ⟨y108,hy108⟩ : ∃ y_ : List Int,y_ = (([] : List Int)) := ⟨_,rfl⟩
          replace H : (some (y108,false)) = some (r1,r2) := by first | (rw [hy108];with_reducible exact H) | (have H2_ := (Option.bind_some _ _).symm.trans H;rw [hy108];with_reducible exact H2_) | (have H2_ := (Option.bind_some _ _).symm.trans H;with_reducible exact H2_) | with_reducible exact H | (rw [hy108];exact H) | exact H
          have Ny108 := Aside0.mk hy108;clear hy108;simp only [Option.some.injEq,Prod.mk.injEq] at H;obtain ⟨rfl,rfl⟩ := H;obtain ⟨Ao20,co20,eo20⟩ := Kd.R_slice HO_6.out;subst eo20;have p107 : 0 ≤ (x7_1 : Int) := of_decide_eq_true (by first | (with_reducible assumption) | assumption);have q107 : x7_1 < (l0.length : Int) := of_decide_eq_true (by first | (with_reducible assumption) | assumption);obtain ⟨ad107,e107,hx107_0,hx107_1,hx107_2⟩ := at_T34 HR0.out x7_1 p107 q107;cases e107;replace hx107_0 := (HB.out.cell (World.block_lt_of_cell? w _ hx107_0)).trans hx107_0;replace hx107_1 := (HB.out.cell (World.block_lt_of_cell? w _ hx107_1)).trans hx107_1;replace hx107_2 := (HB.out.cell (World.block_lt_of_cell? w _ hx107_2)).trans hx107_2;replace p107 := eq_true p107;replace q107 := eq_true q107
          go_wp2_with (first | ((with_reducible refine gate_dst (N := 45) rfl ?_);refine Kd.R_lit (Kd.int .i64) _ 3 ?hg (N := 45) ?hd (xs := ([] : List Int)) (inner := []) (ok := fun _ => True) (okp := fun _ => True) ?hr ?hp (fun _ hk => hk) trivial (Below.refl _ _) (Nat.le_refl _) (by simp) ?_;(case hd => rfl);(case hg => rfl);(case hr => first | (go_simp;done) | (go_simp;rfl));(case hp => exact (Reps.none _ _));intro v109 w21 ho22 hb hg_ hnew_;clear hg_ hnew_;(first | rw [← Ny108.out] at ho22 | (simp only [Int.reduceToNat] at ho22;rw [← Ny108.out] at ho22));have n0_ := Aside0.mk (Kd.R_elder' (by (with_reducible repeat (first | apply Kd.R_alloc | apply Kd.R_drewN | apply Kd.R_drew));exact HO_6.out) (Kd.R_base ho22) hb);have n1_ := Aside0.mk (Kd.R_lower (Kd.R_new' ho22 (Kd.R_lt (by (with_reducible repeat (first | apply Kd.R_alloc | apply Kd.R_drewN | apply Kd.R_drew));exact HO_6.out))) (below_size (by repeat (first | (with_reducible first | exact HB.out | apply below_alloc | apply pw_below_drewN | apply below_drew1) | exact HB.out))));have n2_ := Aside0.mk (below_step (by repeat (first | (with_reducible first | exact HB.out | apply below_alloc | apply pw_below_drewN | apply below_drew1) | exact HB.out)) hb);clear HO_6;clear HB;have HO_6 := n0_;have HO110 := n1_;have HB := n2_;clear n0_ n1_ n2_;clear hb ho22))
          go_ret2
          exact ⟨_,by first | rfl | (simp [errW_none,errW_some,IntKind.wrap_i64,wrap64];done) | (simp [errW_none,errW_some] <;> rfl) | (simp [*,errW_none,errW_some] <;> rfl),by (with_reducible repeat (first | apply Kd.R_alloc | apply Kd.R_drewN | apply Kd.R_drew));exact Kd.R_mono HO110.out (fun _ hk => trivial),by repeat (first | (with_reducible first | exact HB.out | apply below_alloc | apply pw_below_drewN | apply below_drew1) | exact HB.out)⟩
         ·rw [if_neg c19] at H
          have c19b0 : (((rd_T34 l0 x7_1).f2) != (decide (x8_2 ≥ 0))) = false := by simpa using c19
          (try (have c19b1 : decide (((rd_T34 l0 x7_1).f2) = (decide (x8_2 ≥ 0))) = true := by simpa using c19));(try (have c19b2 : (((rd_T34 l0 x7_1).f2) == (decide (x8_2 ≥ 0))) = true := by simpa using c19));clear c19
          by_cases c23 : x8_2 < 0
          ·rw [if_pos c23] at H;have c23b0 : decide (x8_2 < 0) = true := decide_eq_true c23
           have c19z : ((rd_T34 l0 x7_1).f2) = false := by have h_ := c19b0;rw [show decide (x8_2 ≥ 0) = false from decide_eq_false (by omega)] at h_;simpa using h_
           have c19y : decide (0 ≤ x8_2) = false := decide_eq_false (by omega);clear c23
           by_cases c24 : x6_1.length < 17592186044416
           ·rw [if_pos c24] at H;have LMc24 := Aside0.mk c24;clear c24;obtain ⟨y111,hy111⟩ : ∃ y_ : List Int,y_ = (x6_1 ++ [x7_1]) := ⟨_,rfl⟩
            replace H : (spec_l07Up.l0 k2 l0 a1 y111 (wrap64 (x7_1 + 1))) = some (r1,r2) := by first | (rw [hy111];with_reducible exact H) | (have H2_ := (Option.bind_some _ _).symm.trans H;rw [hy111];with_reducible exact H2_) | (have H2_ := (Option.bind_some _ _).symm.trans H;with_reducible exact H2_) | with_reducible exact H | (rw [hy111];exact H) | exact H
            have Ny111 := Aside0.mk hy111;clear hy111;have H' := Aside0.mk H;clear H;obtain ⟨Ao25,co25,eo25⟩ := Kd.R_slice HO_6.out;subst eo25;have p107 : 0 ≤ (x7_1 : Int) := of_decide_eq_true (by first | (with_reducible assumption) | assumption);have q107 : x7_1 < (l0.length : Int) := of_decide_eq_true (by first | (with_reducible assumption) | assumption);obtain ⟨ad107,e107,hx107_0,hx107_1,hx107_2⟩ := at_T34 HR0.out x7_1 p107 q107;cases e107;replace hx107_0 := (HB.out.cell (World.block_lt_of_cell? w _ hx107_0)).trans hx107_0;replace hx107_1 := (HB.out.cell (World.block_lt_of_cell? w _ hx107_1)).trans hx107_1;replace hx107_2 := (HB.out.cell (World.block_lt_of_cell? w _ hx107_2)).trans hx107_2;replace p107 := eq_true p107;replace q107 := eq_true q107
            go_wp2_with (first | ((with_reducible refine gate_builtin (b := .append) (xs := #[.tmp 48,.tmp 50]) rfl ?_);at_builtin;refine Kd.R_append (Kd.int .i64) (w0 := w) w.heap.size rfl (.tmp 48) (.tmp 50) 45 3 (.int .i64 0) 8 rfl Tryd.underlying45 info3 rfl (by decide) (by omega) (.slice Ao25 x6_1.length co25) x6_1 x7_1 [.int .i64 x7_1] (fun _ => True) (fun _ => False) rfl rfl ?aP (fun _ hk => hk.elim) ?aF ?aO ?aB ?aS ?aL ?_;(case aP => exact rfl);(case aB => exact (by repeat (first | (with_reducible first | exact HB.out | apply below_alloc | apply pw_below_drewN | apply below_drew1) | exact HB.out)));(case aF => exact (fun _ _ => trivial));(case aO => exact (by (with_reducible repeat (first | apply Kd.R_alloc | apply Kd.R_drewN | apply Kd.R_drew));exact HO_6.out));(case aS => exact (below_size (by repeat (first | (with_reducible first | exact HB.out | apply below_alloc | apply pw_below_drewN | apply below_drew1) | exact HB.out))));(case aL => have := LMc24.out;omega);intro v112 w26 ho hb hg hat;rw [← Ny111.out] at ho;have n0_ := Aside0.mk (hb);have n1_ := Aside0.mk (ho);clear HB;clear HO_6;have HB := n0_;have HO113 := n1_;clear n0_ n1_;clear ho hb hg hat))
            go_roundg k2
            case measure => have := HK1.out;have := HK2.out;omega
            case rel => exact ⟨(y111),(wrap64 (x7_1 + 1)),(by first | rfl | (simp only [IntKind.wrap_i64,wrap64];done) | (simp;done) | (simp [*];done)),H',⟨by have := HK1.out;have := HK2.out;omega⟩,⟨by (with_reducible repeat (first | apply Kd.R_alloc | apply Kd.R_drewN | apply Kd.R_drew));exact HO113.out⟩,⟨by repeat (first | (with_reducible first | exact HB.out | apply below_alloc | apply pw_below_drewN | apply below_drew1) | exact HB.out)⟩⟩
           ·rw [if_neg c24] at H;exact absurd H (by simp)
          ·rw [if_neg c23] at H;have c23b0 : decide (x8_2 < 0) = false := decide_eq_false c23
           have c19z : (!(rd_T34 l0 x7_1).f2) = false := by have h_ := c19b0;rw [show decide (x8_2 ≥ 0) = true from decide_eq_true (by omega)] at h_;simpa using h_
           have c19y : decide (0 ≤ x8_2) = true := decide_eq_true (by omega);clear c23;obtain ⟨y114,hy114⟩ : ∃ y_ : List Int,y_ = (([] : List Int)) := ⟨_,rfl⟩
           replace H : (if 0 ≤ x8_2 then (if x8_2 ≤ (x6_1.length : Int) then ((some (x6_1.take (x8_2 : Int).toNat : List Int)).bind fun y117 => (if y114.length + y117.length < 17592186044416 then ((some (y114 ++ y117 : List Int)).bind fun y121 => (if 0 ≤ (wrap64 (x8_2 + 1)) then (if (wrap64 (x8_2 + 1)) ≤ (x6_1.length : Int) then ((some (x6_1.drop ((wrap64 (x8_2 + 1)) : Int).toNat : List Int)).bind fun y124 => (if y121.length + y124.length < 17592186044416 then (spec_l07Up.l0 k2 l0 a1 (y121 ++ y124) (wrap64 (x7_1 + 1))) else (none))) else (none)) else (none))) else (none))) else (none)) else (none)) = some (r1,r2) := by first | (rw [hy114];with_reducible exact H) | (have H2_ := (Option.bind_some _ _).symm.trans H;rw [hy114];with_reducible exact H2_) | (have H2_ := (Option.bind_some _ _).symm.trans H;with_reducible exact H2_) | with_reducible exact H | (rw [hy114];exact H) | exact H
           have Ny114 := Aside0.mk hy114;clear hy114
           by_cases c27 : 0 ≤ x8_2
           ·rw [if_pos c27] at H;have c27b0 := eq_true c27;have c27b1 : decide (0 ≤ x8_2) = true := decide_eq_true c27;clear c27
            by_cases c28 : x8_2 ≤ (x6_1.length : Int)
            ·rw [if_pos c28] at H;have c28b0 := eq_true c28;have c28b1 : decide (x8_2 ≤ (x6_1.length : Int)) = true := decide_eq_true c28;clear c28;obtain ⟨y117,hy117⟩ : ∃ y_ : List Int,y_ = (x6_1.take (x8_2 : Int).toNat) := ⟨_,rfl⟩
             replace H : (if y114.length + y117.length < 17592186044416 then ((some (y114 ++ y117 : List Int)).bind fun y121 => (if 0 ≤ (wrap64 (x8_2 + 1)) then (if (wrap64 (x8_2 + 1)) ≤ (x6_1.length : Int) then ((some (x6_1.drop ((wrap64 (x8_2 + 1)) : Int).toNat : List Int)).bind fun y124 => (if y121.length + y124.length < 17592186044416 then (spec_l07Up.l0 k2 l0 a1 (y121 ++ y124) (wrap64 (x7_1 + 1))) else (none))) else (none)) else (none))) else (none)) = some (r1,r2) := by first | (rw [hy117];with_reducible exact H) | (have H2_ := (Option.bind_some _ _).symm.trans H;rw [hy117];with_reducible exact H2_) | (have H2_ := (Option.bind_some _ _).symm.trans H;with_reducible exact H2_) | with_reducible exact H | (rw [hy117];exact H) | exact H
             have Ny117 := Aside0.mk hy117;clear hy117
             by_cases c29 : y114.length + y117.length < 17592186044416
             ·rw [if_pos c29] at H;have LMc29 := Aside0.mk c29;clear c29;obtain ⟨y121,hy121⟩ : ∃ y_ : List Int,y_ = (y114 ++ y117) := ⟨_,rfl⟩
              replace H : (if 0 ≤ (wrap64 (x8_2 + 1)) then (if (wrap64 (x8_2 + 1)) ≤ (x6_1.length : Int) then ((some (x6_1.drop ((wrap64 (x8_2 + 1)) : Int).toNat : List Int)).bind fun y124 => (if y121.length + y124.length < 17592186044416 then (spec_l07Up.l0 k2 l0 a1 (y121 ++ y124) (wrap64 (x7_1 + 1))) else (none))) else (none)) else (none)) = some (r1,r2) := by first | (rw [hy121];with_reducible exact H) | (have H2_ := (Option.bind_some _ _).symm.trans H;rw [hy121];with_reducible exact H2_) | (have H2_ := (Option.bind_some _ _).symm.trans H;with_reducible exact H2_) | with_reducible exact H | (rw [hy121];exact H) | exact H
              have Ny121 := Aside0.mk hy121;clear hy121;obtain ⟨ji30,hji30⟩ : ∃ j_ : Int,(wrap64 (x8_2 + 1)) = j_ := ⟨_,rfl⟩
              replace H : (if 0 ≤ (ji30) then (if (ji30) ≤ (x6_1.length : Int) then ((some (x6_1.drop ((ji30) : Int).toNat : List Int)).bind fun y124 => (if y121.length + y124.length < 17592186044416 then (spec_l07Up.l0 k2 l0 a1 (y121 ++ y124) (wrap64 (x7_1 + 1))) else (none))) else (none)) else (none)) = some (r1,r2) := by first | (rw [hji30] at H;exact H) | (simp only [hji30] at H ⊢;exact H)
              have hji30w : (IntKind.i64.wrap (x8_2 + 1)) = ji30 := (i64_w _).trans hji30
              by_cases c31 : 0 ≤ (ji30)
              ·rw [if_pos c31] at H;have c31b0 := eq_true c31;have c31b1 : decide (0 ≤ (ji30)) = true := decide_eq_true c31;clear c31
               by_cases c32 : (ji30) ≤ (x6_1.length : Int)
               ·rw [if_pos c32] at H;have c32b0 := eq_true c32;have c32b1 : decide ((ji30) ≤ (x6_1.length : Int)) = true := decide_eq_true c32;clear c32;obtain ⟨y124,hy124⟩ : ∃ y_ : List Int,y_ = (x6_1.drop ((ji30) : Int).toNat) := ⟨_,rfl⟩
                replace H : (if y121.length + y124.length < 17592186044416 then (spec_l07Up.l0 k2 l0 a1 (y121 ++ y124) (wrap64 (x7_1 + 1))) else (none)) = some (r1,r2) := by first | (rw [hy124];with_reducible exact H) | (have H2_ := (Option.bind_some _ _).symm.trans H;rw [hy124];with_reducible exact H2_) | (have H2_ := (Option.bind_some _ _).symm.trans H;with_reducible exact H2_) | with_reducible exact H | (rw [hy124];exact H) | exact H
                have Ny124 := Aside0.mk hy124;clear hy124
                by_cases c33 : y121.length + y124.length < 17592186044416
                ·rw [if_pos c33] at H;have LMc33 := Aside0.mk c33;clear c33;obtain ⟨y128,hy128⟩ : ∃ y_ : List Int,y_ = (y121 ++ y124) := ⟨_,rfl⟩
                 replace H : (spec_l07Up.l0 k2 l0 a1 y128 (wrap64 (x7_1 + 1))) = some (r1,r2) := by first | (rw [hy128];with_reducible exact H) | (have H2_ := (Option.bind_some _ _).symm.trans H;rw [hy128];with_reducible exact H2_) | (have H2_ := (Option.bind_some _ _).symm.trans H;with_reducible exact H2_) | with_reducible exact H | (rw [hy128];exact H) | exact H
                 have Ny128 := Aside0.mk hy128;clear hy128;have H' := Aside0.mk H;clear H;obtain ⟨Ao34,co34,eo34⟩ := Kd.R_slice HO_6.out;subst eo34;have p107 : 0 ≤ (x7_1 : Int) := of_decide_eq_true (by first | (with_reducible assumption) | assumption);have q107 : x7_1 < (l0.length : Int) := of_decide_eq_true (by first | (with_reducible assumption) | assumption);obtain ⟨ad107,e107,hx107_0,hx107_1,hx107_2⟩ := at_T34 HR0.out x7_1 p107 q107;cases e107;replace hx107_0 := (HB.out.cell (World.block_lt_of_cell? w _ hx107_0)).trans hx107_0;replace hx107_1 := (HB.out.cell (World.block_lt_of_cell? w _ hx107_1)).trans hx107_1;replace hx107_2 := (HB.out.cell (World.block_lt_of_cell? w _ hx107_2)).trans hx107_2;replace p107 := eq_true p107;replace q107 := eq_true q107;(try go_wp2);have n0_ := Aside0.mk (Kd.R_drew HO_6.out);have n1_ := Aside0.mk (below_drew1 HB.out);clear HO_6;clear HB;have HO_6 := n0_;have HB := n1_;clear n0_ n1_;have q36 : (x8_2 : Int) ≤ ((x6_1.length : Int) : Int) := of_decide_eq_true (by first | (with_reducible assumption) | assumption);obtain ⟨i036,hi036,_,hsz36,_⟩ := info_parts info3;have hroom36 : x6_1.length ≤ co34 := (Kd.R_reads' HO_6.out).2.1;have hC36 : Kd.C (Kd.int .i64) _ Ao34 x6_1.length x6_1 := (Kd.R_reads' HO_6.out).2.2;have hcut36 := cut_to (P := Tryd.prog) 45 3 .i64 Tryd.underlying45 hi036 Ao34 x6_1.length co34 x8_2 (of_decide_eq_true (by first | (with_reducible assumption) | assumption)) q36 hroom36;have hr36 := Kd.C_take (m := (x8_2 : Int).toNat) hC36 (by omega);have hy36 : y117.length = (x8_2 : Int).toNat := (by rw [Ny117.out,List.length_take];omega);rw [← Ny117.out] at hr36;rw [← hy36] at hcut36;have HR120 := Aside0.mk hr36;have HC120 := Aside0.mk (show y117.length ≤ co34 from by omega);clear hr36 hC36 hroom36 hi036 hsz36;have KY36 := Aside0.mk hy36;clear hy36;have KL36 := Aside0.mk (show (x8_2 : Int).toNat ≤ x6_1.length from by omega);replace q36 := eq_true q36;have q37 : ((ji30) : Int) ≤ ((x6_1.length : Int) : Int) := of_decide_eq_true (by first | (with_reducible assumption) | assumption);obtain ⟨i037,hi037,_,hsz37,_⟩ := info_parts info3;have hroom37 : x6_1.length ≤ co34 := (Kd.R_reads' HO_6.out).2.1;have hC37 : Kd.C (Kd.int .i64) _ Ao34 x6_1.length x6_1 := (Kd.R_reads' HO_6.out).2.2;have q037 : (0 : Int) ≤ ((ji30) : Int) := of_decide_eq_true (by first | (with_reducible assumption) | assumption);have hcut37 := cut_from (P := Tryd.prog) 45 3 .i64 Tryd.underlying45 hi037 1 hsz37 Ao34 x6_1.length co34 (ji30) q037 q37;have hr37 := Kd.C_drop (m := ((ji30) : Int).toNat) (c := co34) hC37 (by omega) hroom37;obtain ⟨A37,hA37⟩ : ∃ A1,A1 = (if co34 = ((ji30) : Int).toNat then Ao34 else (Ao34 : Option Addr).map (·.add (((ji30) : Int).toNat * 1))) := ⟨_,rfl⟩;obtain ⟨c37,hc37⟩ : ∃ c1,c1 = co34 - ((ji30) : Int).toNat := ⟨_,rfl⟩;have hy37 : y124.length = x6_1.length - ((ji30) : Int).toNat := (by rw [Ny124.out,List.length_drop] <;> omega);rw [show (x6_1).drop ((ji30) : Int).toNat = y124 from Ny124.out.symm] at hr37;replace hr37 : Kd.C (Kd.int .i64) _ A37 y124.length y124 := (by rw [hA37];exact hr37);rw [← hy37,← hA37,← hc37] at hcut37;have HR127 := Aside0.mk hr37;have HC127 := Aside0.mk (show y124.length ≤ c37 from by rw [hy37,hc37];exact Nat.sub_le_sub_right hroom37 _);clear hr37 hC37 hroom37 hi037 hsz37 hc37;have KY37 := Aside0.mk hy37;have KA37 := Aside0.mk hA37;clear hy37 hA37;have KL37 := Aside0.mk (show ((ji30) : Int).toNat ≤ x6_1.length from by omega);replace q37 := eq_true q37;refine start_ (n := 11) (S := fun w' => True) (ds := []) #[false,false,false,false,false,false,false,false,false,false,false] (by kernel_rfl) rfl rfl trivial (fun hHeld => ?_);refine with_tabW spec_l07Up.tab15 spec_l07Up.bits15 (fun HT_ HW_ => ?_);generalize wr.drew = w35 at HO_6 HB HR120 HR127 hHeld ⊢;refine pure_ (i := 1) (N := some 53) (v := ?_) (a' := ?_) #[false,true,false,false,false,false,false,false,false,false,false] rfl rfl (any_of HT_.out (by kernel_rfl)) (fun _ _ _ h => h) (Or.inl ⟨by rfl,?_⟩) ?_ ?_;rotate_left
                 ·intro w';go_simp;with_reducible rfl
                 rotate_left
                 ·simp only [Act.put,List.setIfInBounds_toArray,List.set_cons_zero,List.set_cons_succ,i64_w,i32_w];rfl
                 refine pure_ (i := 2) (N := some 54) (v := ?_) (a' := ?_) #[false,true,true,false,false,false,false,false,false,false,false] rfl rfl (any_of HT_.out (by kernel_rfl)) (fun _ _ _ h => h) (Or.inl ⟨by rfl,?_⟩) ?_ ?_;rotate_left
                 ·intro w';go_simp;with_reducible rfl
                 rotate_left
                 ·simp only [Act.put,List.setIfInBounds_toArray,List.set_cons_zero,List.set_cons_succ,i64_w,i32_w];rfl
                 refine pure_ (i := 3) (N := some 55) (v := ?_) (a' := ?_) #[false,true,true,true,false,false,false,false,false,false,false] rfl rfl (any_of HT_.out (by kernel_rfl)) (fun _ _ _ h => h) (Or.inl ⟨by rfl,?_⟩) ?_ ?_;rotate_left
                 ·intro w';go_simp;with_reducible rfl
                 rotate_left
                 ·simp only [Act.put,List.setIfInBounds_toArray,List.set_cons_zero,List.set_cons_succ,i64_w,i32_w];rfl
                 refine pure_ (i := 5) (N := some 57) (v := ?_) (a' := ?_) #[false,true,true,true,false,true,false,false,false,false,false] rfl rfl (any_of HT_.out (by kernel_rfl)) (fun _ _ _ h => h) (Or.inl ⟨by rfl,?_⟩) ?_ ?_;rotate_left
                 ·intro w';go_simp;with_reducible rfl
                 rotate_left
                 ·simp only [Act.put,List.setIfInBounds_toArray,List.set_cons_zero,List.set_cons_succ,i64_w,i32_w];rfl
                 refine pure_ (i := 6) (N := some 58) (v := ?_) (a' := ?_) #[false,true,true,true,false,true,true,false,false,false,false] rfl rfl (any_of HT_.out (by kernel_rfl)) (fun _ _ _ h => h) (Or.inl ⟨by rfl,?_⟩) ?_ ?_;rotate_left
                 ·intro w';go_simp;with_reducible rfl
                 rotate_left
                 ·simp only [Act.put,List.setIfInBounds_toArray,List.set_cons_zero,List.set_cons_succ,i64_w,i32_w];rfl
                 refine pure_ (i := 7) (N := some 59) (v := ?_) (a' := ?_) #[false,true,true,true,false,true,true,true,false,false,false] rfl rfl (any_of HT_.out (by kernel_rfl)) (fun _ _ _ h => h) (Or.inl ⟨by rfl,?_⟩) ?_ ?_;rotate_left
                 ·intro w';go_simp;with_reducible rfl
                 rotate_left
                 ·simp only [Act.put,List.setIfInBounds_toArray,List.set_cons_zero,List.set_cons_succ,i64_w,i32_w];rfl
                 refine pure_ (i := 8) (N := some 60) (v := ?_) (a' := ?_) #[false,true,true,true,false,true,true,true,true,false,false] rfl rfl (any_of HT_.out (by kernel_rfl)) (fun _ _ _ h => h) (Or.inl ⟨by rfl,?_⟩) ?_ ?_;rotate_left
                 ·intro w';go_simp;with_reducible rfl
                 rotate_left
                 ·simp only [Act.put,List.setIfInBounds_toArray,List.set_cons_zero,List.set_cons_succ,i64_w,i32_w];rfl
                 refine one_ (i := 0) (N := some 52) #[true,true,true,true,false,true,true,true,true,false,false] rfl rfl (one_of HT_.out (by kernel_rfl)) (by decide) (fun K hK => ?_);refine Kd.R_lit_step (Kd.int .i64) _ 3 ?hg (N := 52) ?hd (xs := ([] : List Int)) (inner := []) (ok := fun _ => True) (okp := fun _ => True) ?hr ?hp (fun _ hk => hk) trivial (Below.refl _ _) (Nat.le_refl _) (by simp) ?_;(case hd => rfl);(case hg => rfl);(case hr => first | (go_simp;done) | (go_simp;rfl));(case hp => exact (Reps.none _ _));intro v115 w38 ho39 hb hg_ hnew_;clear hg_ hnew_;(first | rw [← Ny114.out] at ho39 | (simp only [Int.reduceToNat] at ho39;rw [← Ny114.out] at ho39));have n0_ := Aside0.mk (Kd.R_elder' (by (with_reducible repeat (first | apply Kd.R_alloc | apply Kd.R_drewN | apply Kd.R_drew));exact HO_6.out) (Kd.R_base ho39) hb);have n1_ := Aside0.mk (Kd.R_lower (Kd.R_new' ho39 (Kd.R_lt (by (with_reducible repeat (first | apply Kd.R_alloc | apply Kd.R_drewN | apply Kd.R_drew));exact HO_6.out))) (below_size (by repeat (first | (with_reducible first | exact HB.out | apply below_alloc | apply pw_below_drewN | apply below_drew1) | exact HB.out))));have n2_ := Aside0.mk (Kd.C_below (by repeat (first | (with_reducible exact HR120.out) | (with_reducible refine Kd.C_alloc ?_ _) | (with_reducible refine Kd.C_drewN ?_ _) | (with_reducible refine Kd.C_drew ?_) | exact HR120.out)) hb);have n3_ := Aside0.mk (Kd.C_below (by repeat (first | (with_reducible exact HR127.out) | (with_reducible refine Kd.C_alloc ?_ _) | (with_reducible refine Kd.C_drewN ?_ _) | (with_reducible refine Kd.C_drew ?_) | exact HR127.out)) hb);have n4_ := Aside0.mk (below_step (by repeat (first | (with_reducible first | exact HB.out | apply below_alloc | apply pw_below_drewN | apply below_drew1) | exact HB.out)) hb);clear HO_6;clear HR120;clear HR127;clear HB;have HO_6 := n0_;have HO116 := n1_;have HR120 := n2_;have HR127 := n3_;have HB := n4_;clear n0_ n1_ n2_ n3_ n4_;clear hb ho39;refine hK.out _ _ trivial (fun hHeld => ?_);clear hK K;refine norm_ (a' := ?_) ?_ ?_;rotate_left
                 ·show Act.put _ (some 52) _ = _
                  simp only [Act.put,List.setIfInBounds_toArray,List.set_cons_zero,List.set_cons_succ,i64_w,i32_w];rfl
                 refine one_ (i := 4) (N := some 56) #[true,true,true,true,true,true,true,true,true,false,false] rfl rfl (one_of HT_.out (by kernel_rfl)) (by decide) (fun K hK => ?_);refine Kd.R_append_rows_step (Kd.int .i64) (w0 := w) w.heap.size (by rfl) (.tmp 52) (.tmp 55) 45 3 (.int .i64 0) 8 rfl Tryd.underlying45 info3 rfl (by decide) (by omega) v115 y114 y117 _ _ _ (fun k_ => some k_ ≠ (.slice Ao34 x6_1.length co34 : Value).ownBlock) (fun _ => False) rfl rfl ?aO ?aR (fun _ _ h => h) (fun _ h => h.elim) ?aF ?aB ?aS ?aL ?_;(case aR => repeat (first | exact (by repeat (first | (with_reducible exact HR120.out) | (with_reducible refine Kd.C_alloc ?_ _) | (with_reducible refine Kd.C_drewN ?_ _) | (with_reducible refine Kd.C_drew ?_) | exact HR120.out)) | (with_reducible refine Kd.C_alloc ?_ _) | (with_reducible refine Kd.C_drewN ?_ _) | (with_reducible refine Kd.C_drew ?_)));(case aB => exact (by repeat (first | (with_reducible first | exact HB.out | apply below_alloc | apply pw_below_drewN | apply below_drew1) | exact HB.out)));(case aF => exact (fun k_ hk => Kd.fresh' (Kd.R_lt (by (with_reducible repeat (first | apply Kd.R_alloc | apply Kd.R_drewN | apply Kd.R_drew));exact HO_6.out)) k_ hk));(case aO => exact (by (with_reducible repeat (first | apply Kd.R_alloc | apply Kd.R_drewN | apply Kd.R_drew));exact Kd.R_mono HO116.out (fun _ hk => hk.2)));(case aS => exact (below_size (by repeat (first | (with_reducible first | exact HB.out | apply below_alloc | apply pw_below_drewN | apply below_drew1) | exact HB.out))));(case aL => have := LMc29.out;omega);intro v122 w40 ho hb hg hat;rw [← Ny121.out] at ho;have n0_ := Aside0.mk (Kd.R_after (ok := (fun _ => True)) (by (with_reducible repeat (first | apply Kd.R_alloc | apply Kd.R_drewN | apply Kd.R_drew));exact HO_6.out) hg hat);have n1_ := Aside0.mk (hb);have n2_ := Aside0.mk ((show Kd.C (Kd.int .i64) w40 Ao34 y117.length y117 from by rw [Ny117.out];exact Kd.C_take (m := (x8_2 : Int).toNat) ((Kd.R_reads' (Kd.R_after (ok := (fun _ => True)) (by (with_reducible repeat (first | apply Kd.R_alloc | apply Kd.R_drewN | apply Kd.R_drew));exact HO_6.out) hg hat)).2.2) KL36.out));have n3_ := Aside0.mk ((show Kd.C (Kd.int .i64) w40 A37 y124.length y124 from by rw [Ny124.out,KA37.out];exact Kd.C_drop (m := ((ji30) : Int).toNat) (c := co34) ((Kd.R_reads' (Kd.R_after (ok := (fun _ => True)) (by (with_reducible repeat (first | apply Kd.R_alloc | apply Kd.R_drewN | apply Kd.R_drew));exact HO_6.out) hg hat)).2.2) KL37.out ((Kd.R_reads' (Kd.R_after (ok := (fun _ => True)) (by (with_reducible repeat (first | apply Kd.R_alloc | apply Kd.R_drewN | apply Kd.R_drew));exact HO_6.out) hg hat)).2.1)));have n4_ := Aside0.mk (ho);clear HO_6;clear HB;clear HR120;clear HR127;clear HO116;have HO_6 := n0_;have HB := n1_;have HR120 := n2_;have HR127 := n3_;have HO123 := n4_;clear n0_ n1_ n2_ n3_ n4_;clear ho hb hg hat;refine hK.out _ _ trivial (fun hHeld => ?_);clear hK K;refine norm_ (a' := ?_) ?_ ?_;rotate_left
                 ·show Act.put _ (some 56) _ = _
                  simp only [Act.put,List.setIfInBounds_toArray,List.set_cons_zero,List.set_cons_succ,i64_w,i32_w];rfl
                 refine one_ (i := 9) (N := some 61) #[true,true,true,true,true,true,true,true,true,true,false] rfl rfl (one_of HT_.out (by kernel_rfl)) (by decide) (fun K hK => ?_);refine Kd.R_append_rows_step (Kd.int .i64) (w0 := w) w.heap.size (by rfl) (.tmp 56) (.tmp 60) 45 3 (.int .i64 0) 8 rfl Tryd.underlying45 info3 rfl (by decide) (by omega) v122 y121 y124 _ _ _ (fun k_ => some k_ ≠ (.slice Ao34 x6_1.length co34 : Value).ownBlock) (fun _ => False) rfl rfl ?aO ?aR (fun _ _ h => h) (fun _ h => h.elim) ?aF ?aB ?aS ?aL ?_;(case aR => repeat (first | exact (by repeat (first | (with_reducible exact HR127.out) | (with_reducible refine Kd.C_alloc ?_ _) | (with_reducible refine Kd.C_drewN ?_ _) | (with_reducible refine Kd.C_drew ?_) | exact HR127.out)) | (with_reducible refine Kd.C_alloc ?_ _) | (with_reducible refine Kd.C_drewN ?_ _) | (with_reducible refine Kd.C_drew ?_)));(case aB => exact (by repeat (first | (with_reducible first | exact HB.out | apply below_alloc | apply pw_below_drewN | apply below_drew1) | exact HB.out)));(case aF => exact (fun k_ hk => Kd.fresh' (Kd.R_lt (by (with_reducible repeat (first | apply Kd.R_alloc | apply Kd.R_drewN | apply Kd.R_drew));exact HO_6.out)) k_ hk));(case aO => exact (by (with_reducible repeat (first | apply Kd.R_alloc | apply Kd.R_drewN | apply Kd.R_drew));exact HO123.out));(case aS => exact (below_size (by repeat (first | (with_reducible first | exact HB.out | apply below_alloc | apply pw_below_drewN | apply below_drew1) | exact HB.out))));(case aL => have := LMc33.out;omega);intro v129 w41 ho hb hg hat;rw [← Ny128.out] at ho;have n0_ := Aside0.mk (Kd.R_after (ok := (fun _ => True)) (by (with_reducible repeat (first | apply Kd.R_alloc | apply Kd.R_drewN | apply Kd.R_drew));exact HO_6.out) hg hat);have n1_ := Aside0.mk (hb);have n2_ := Aside0.mk ((show Kd.C (Kd.int .i64) w41 Ao34 y117.length y117 from by rw [Ny117.out];exact Kd.C_take (m := (x8_2 : Int).toNat) ((Kd.R_reads' (Kd.R_after (ok := (fun _ => True)) (by (with_reducible repeat (first | apply Kd.R_alloc | apply Kd.R_drewN | apply Kd.R_drew));exact HO_6.out) hg hat)).2.2) KL36.out));have n3_ := Aside0.mk ((show Kd.C (Kd.int .i64) w41 A37 y124.length y124 from by rw [Ny124.out,KA37.out];exact Kd.C_drop (m := ((ji30) : Int).toNat) (c := co34) ((Kd.R_reads' (Kd.R_after (ok := (fun _ => True)) (by (with_reducible repeat (first | apply Kd.R_alloc | apply Kd.R_drewN | apply Kd.R_drew));exact HO_6.out) hg hat)).2.2) KL37.out ((Kd.R_reads' (Kd.R_after (ok := (fun _ => True)) (by (with_reducible repeat (first | apply Kd.R_alloc | apply Kd.R_drewN | apply Kd.R_drew));exact HO_6.out) hg hat)).2.1)));have n4_ := Aside0.mk (ho);clear HO_6;clear HB;clear HR120;clear HR127;clear HO123;have HO_6 := n0_;have HB := n1_;have HR120 := n2_;have HR127 := n3_;have HO130 := n4_;clear n0_ n1_ n2_ n3_ n4_;clear ho hb hg hat;refine hK.out _ _ trivial (fun hHeld => ?_);clear hK K;refine norm_ (a' := ?_) ?_ ?_;rotate_left
                 ·show Act.put _ (some 61) _ = _
                  simp only [Act.put,List.setIfInBounds_toArray,List.set_cons_zero,List.set_cons_succ,i64_w,i32_w];rfl
                 refine pure_ (i := 10) (N := some 6) (v := ?_) (a' := ?_) #[true,true,true,true,true,true,true,true,true,true,true] rfl rfl (any_of HT_.out (by kernel_rfl)) (fun _ _ _ h => h) (Or.inl ⟨by rfl,?_⟩) ?_ ?_;rotate_left
                 ·intro w';go_simp;with_reducible rfl
                 rotate_left
                 ·simp only [Act.put,List.setIfInBounds_toArray,List.set_cons_zero,List.set_cons_succ,i64_w,i32_w];rfl
                 refine done_ (done_of HT_.out (by kernel_rfl)) ?_;(try go_wp2)
                 go_roundg k2
                 case measure => have := HK1.out;have := HK2.out;omega
                 case rel => exact ⟨(y128),(wrap64 (x7_1 + 1)),(by first | rfl | (simp only [IntKind.wrap_i64,wrap64];done) | (simp;done) | (simp [*];done)),H',⟨by have := HK1.out;have := HK2.out;omega⟩,⟨by (with_reducible repeat (first | apply Kd.R_alloc | apply Kd.R_drewN | apply Kd.R_drew));exact Kd.R_mono HO130.out (fun _ hk => trivial)⟩,⟨by repeat (first | (with_reducible first | exact HB.out | apply below_alloc | apply pw_below_drewN | apply below_drew1) | exact HB.out)⟩⟩
                ·rw [if_neg c33] at H;exact absurd H (by simp)
               ·rw [if_neg c32] at H;exact absurd H (by simp)
              ·rw [if_neg c31] at H;exact absurd H (by simp)
             ·rw [if_neg c29] at H;exact absurd H (by simp)
            ·rw [if_neg c28] at H;exact absurd H (by simp)
           ·rw [if_neg c27] at H;exact absurd H (by simp)
        ·rw [if_neg c18] at H;exact absurd H (by simp)
       ·rw [if_neg c17] at H;exact absurd H (by simp)
   ·rw [if_neg c5] at H;have c5b0 : decide (x7_1 < a1) = false := decide_eq_false c5;clear c5;simp only [Option.some.injEq,Prod.mk.injEq] at H;obtain ⟨rfl,rfl⟩ := H
    go_wp2
    go_ret2
    exact ⟨_,by first | rfl | (simp [errW_none,errW_some,IntKind.wrap_i64,wrap64];done) | (simp [errW_none,errW_some] <;> rfl) | (simp [*,errW_none,errW_some] <;> rfl),by (with_reducible repeat (first | apply Kd.R_alloc | apply Kd.R_drewN | apply Kd.R_drew));exact HO_6.out,by repeat (first | (with_reducible first | exact HB.out | apply below_alloc | apply pw_below_drewN | apply below_drew1) | exact HB.out)⟩
end Go.Proofs.YtmcfbnglocojkaaDoor.G
end

section
namespace Go.Proofs.YtmcfbnglocojkaaDoor.G
open Go.RowKit Go.Proofs.YtmcfbnglocojkaaDoorW.PrintWords Go.Proofs.YtmcfbnglocojkaaDoorW.PrintLast Go.Proofs.YtmcfbnglocojkaaDoorW.PrintMore
attribute [local go_sem] max2_int min2_int max_two min_two max_three min_three max_four min_four
set_option linter.unusedVariables false
set_option linter.unusedSimpArgs false
def spec_l07Ok.l0 : Nat → List (S34) → Int → Int → Option (Bool)
 | 0,_,_,_ => none
 | k + 1,x0,x3,x4 => if x4 < (x0.length : Int) then (if 0 ≤ x4 then ((spec_l00In.f ((rd_T34 x0 x4).f0) x3 100000).bind fun t106 => (if t106 = true then ((spec_l00In.f ((rd_T34 x0 x4).f1) 0 9999).bind fun t108 => (if t108 = true then (spec_l07Ok.l0 k x0 ((rd_T34 x0 x4).f0) (wrap64 (x4 + 1))) else (some false))) else (some false))) else (none)) else ((spec_l07Up.f k x0 (x0.length : Int)).bind fun bt101 => (some bt101.2))
def spec_l07Ok.f (k : Nat) (l0 : List (S34)) : Option (Bool) := if (l0.length : Int) > 60 then (some false) else (spec_l07Ok.l0 k l0 0 0)
set_option maxHeartbeats 8000000 in
set_option maxRecDepth 100000 in
theorem spec_l07Ok.calls (k : Nat) (A0 : Option Addr) (c0 : Nat) (l0 : List (S34)) (r : Bool) (w : World) (hr0 : Kd.C k34 w A0 l0.length l0) (hc0 : l0.length ≤ c0) (h : spec_l07Ok.f k l0 = some r) :
  Calls Tryd.prog 11 #[.slice A0 l0.length c0] w fun e w' => e = .returned (.bool r) ∧ Below w.heap.size w w' := by
 have HR0 := Aside0.mk hr0;have HC0 := Aside0.mk hc0;clear hr0 hc0;have HB := Aside0.mk (Below.refl w.heap.size w);have H : (if (l0.length : Int) > 60 then (some false) else (spec_l07Ok.l0 k l0 0 0)) = some r := h;clear h
 by_cases c2 : (l0.length : Int) > 60
 ·rw [if_pos c2] at H;have c2b0 : decide (60 < (l0.length : Int)) = true := decide_eq_true c2;have c2b1 : decide (60 < l0.length) = true := decide_eq_true (by omega);clear c2;obtain rfl := Option.some.inj H
  go_enter Tryd.func11,Tryd.ntmps11
  go_wp2
  go_ret
  exact ⟨by first | rfl | (simp [errW_none,errW_some,IntKind.wrap_i64,wrap64];done) | (simp [errW_none,errW_some] <;> rfl) | (simp [*,errW_none,errW_some] <;> rfl),by repeat (first | (with_reducible first | exact HB.out | apply below_alloc | apply pw_below_drewN | apply below_drew1) | exact HB.out)⟩
 ·rw [if_neg c2] at H;have c2b0 : decide (60 < (l0.length : Int)) = false := decide_eq_false c2;have c2b1 : decide (60 < l0.length) = false := decide_eq_false (by omega);clear c2;have H' := Aside0.mk H;clear H
  go_enter Tryd.func11,Tryd.ntmps11
  go_wp2
  go_loopg [3,4] k (fun kq v3 v4 w' => ∃ (x3_1 : Int) (x4_1 : Int),v3 = .int .i64 x3_1 ∧ v4 = .int .i64 x4_1 ∧ Aside0 (spec_l07Ok.l0 kq l0 x3_1 x4_1 = some r) ∧ Aside0 (kq ≤ k) ∧ Aside0 (Below w.heap.size w w'))
  case atStart => exact ⟨(0),(0),(by first | rfl | (simp only [IntKind.wrap_i64,wrap64];done) | (simp;done) | (simp [*];done)),(by first | rfl | (simp only [IntKind.wrap_i64,wrap64];done) | (simp;done) | (simp [*];done)),H',⟨Nat.le_refl _⟩,⟨by repeat (first | (with_reducible first | exact HB.out | apply below_alloc | apply pw_below_drewN | apply below_drew1) | exact HB.out)⟩⟩
  case round =>
   clear H';(try clear c1);(try clear c2);(try clear c2b0);(try clear c2b1);(try clear p2);obtain ⟨x3_1,x4_1,rfl,rfl,HA,HK1,HB⟩ := hrel
   cases gk with
   | zero => exact absurd HA.out (by simp [spec_l07Ok.l0])
   | succ k1 =>
    have H := HA.out;clear HA;simp only [spec_l07Ok.l0] at H
    by_cases c3 : x4_1 < (l0.length : Int)
    ·rw [if_pos c3] at H;have c3b0 : decide (x4_1 < (l0.length : Int)) = true := decide_eq_true c3;clear c3
     by_cases c4 : 0 ≤ x4_1
     ·rw [if_pos c4] at H;have c4b0 : decide (0 ≤ x4_1) = true := decide_eq_true c4;clear c4;replace H := Option.bind_eq_some_iff.mp H;obtain ⟨t106,A50,H⟩ := H;replace H : (if t106 = true then ((spec_l00In.f ((rd_T34 l0 x4_1).f1) 0 9999).bind fun t108 => (if t108 = true then (spec_l07Ok.l0 k1 l0 ((rd_T34 l0 x4_1).f0) (wrap64 (x4_1 + 1))) else (some false))) else (some false)) = some r := H;have A5 := Aside0.mk A50;clear A50
      by_cases c6 : t106 = true
      ·subst c6
       have H1 : ((spec_l00In.f ((rd_T34 l0 x4_1).f1) 0 9999).bind fun t108 => (if t108 = true then (spec_l07Ok.l0 k1 l0 ((rd_T34 l0 x4_1).f0) (wrap64 (x4_1 + 1))) else (some false))) = some r := by rw [if_pos rfl] at H;exact H
       clear H;have H := H1;clear H1;replace H := Option.bind_eq_some_iff.mp H;obtain ⟨t108,A70,H⟩ := H;replace H : (if t108 = true then (spec_l07Ok.l0 k1 l0 ((rd_T34 l0 x4_1).f0) (wrap64 (x4_1 + 1))) else (some false)) = some r := H;have A7 := Aside0.mk A70;clear A70
       by_cases c8 : t108 = true
       ·subst c8
        have H1 : (spec_l07Ok.l0 k1 l0 ((rd_T34 l0 x4_1).f0) (wrap64 (x4_1 + 1))) = some r := by rw [if_pos rfl] at H;exact H
        clear H;have H := H1;clear H1;have H' := Aside0.mk H;clear H;have p105 : 0 ≤ (x4_1 : Int) := of_decide_eq_true (by first | (with_reducible assumption) | assumption);have q105 : x4_1 < (l0.length : Int) := of_decide_eq_true (by first | (with_reducible assumption) | assumption);obtain ⟨ad105,e105,hx105_0,hx105_1,hx105_2⟩ := at_T34 HR0.out x4_1 p105 q105;cases e105;replace hx105_0 := (HB.out.cell (World.block_lt_of_cell? w _ hx105_0)).trans hx105_0;replace hx105_1 := (HB.out.cell (World.block_lt_of_cell? w _ hx105_1)).trans hx105_1;replace hx105_2 := (HB.out.cell (World.block_lt_of_cell? w _ hx105_2)).trans hx105_2;replace p105 := eq_true p105;replace q105 := eq_true q105
        go_wp2_with (first | ((with_reducible refine gate_callee (f := 18) rfl ?_);refine goesL_ (some 22) rfl rfl Tryd.func18 (by kernel_rfl) rfl #[.int .i64 ((rd_T34 l0 x4_1).f0),.int .i64 x3_1,.int .i64 100000] rfl (by (try simp only [List.map_toArray,List.map_cons,List.map_nil]);first | done | rfl | (simp only [List.length_drop,List.length_take];rfl)) ?_;(with_reducible refine (spec_l00In.calls ((rd_T34 l0 x4_1).f0) x3_1 100000 true _ A5.out).mono ?_);rintro e w' ⟨rfl,⟨nd,rfl⟩⟩;refine ⟨_,rfl,?_⟩;have p107 : 0 ≤ (x4_1 : Int) := of_decide_eq_true (by first | (with_reducible assumption) | assumption);have q107 : x4_1 < (l0.length : Int) := of_decide_eq_true (by first | (with_reducible assumption) | assumption);obtain ⟨ad107,e107,hx107_0,hx107_1,hx107_2⟩ := at_T34 HR0.out x4_1 p107 q107;obtain rfl : ad105 = ad107 := (by injection e107);replace hx107_0 := (HB.out.cell (World.block_lt_of_cell? w _ hx107_0)).trans hx107_0;replace hx107_1 := (HB.out.cell (World.block_lt_of_cell? w _ hx107_1)).trans hx107_1;replace hx107_2 := (HB.out.cell (World.block_lt_of_cell? w _ hx107_2)).trans hx107_2;replace p107 := eq_true p107;replace q107 := eq_true q107) | (go_at_call 18;(with_reducible refine (spec_l00In.calls ((rd_T34 l0 x4_1).f1) 0 9999 true _ A7.out).mono ?_);rintro e w' ⟨rfl,⟨nd,rfl⟩⟩;have p109 : 0 ≤ (x4_1 : Int) := of_decide_eq_true (by first | (with_reducible assumption) | assumption);have q109 : x4_1 < (l0.length : Int) := of_decide_eq_true (by first | (with_reducible assumption) | assumption);obtain ⟨ad109,e109,hx109_0,hx109_1,hx109_2⟩ := at_T34 HR0.out x4_1 p109 q109;obtain rfl : ad105 = ad109 := (by injection e109);replace hx109_0 := (HB.out.cell (World.block_lt_of_cell? w _ hx109_0)).trans hx109_0;replace hx109_1 := (HB.out.cell (World.block_lt_of_cell? w _ hx109_1)).trans hx109_1;replace hx109_2 := (HB.out.cell (World.block_lt_of_cell? w _ hx109_2)).trans hx109_2;replace p109 := eq_true p109;replace q109 := eq_true q109))
        go_roundg k1
        case measure => have := HK1.out;omega
        case rel => exact ⟨((rd_T34 l0 x4_1).f0),(wrap64 (x4_1 + 1)),(by first | rfl | (simp only [IntKind.wrap_i64,wrap64];done) | (simp;done) | (simp [*];done)),(by first | rfl | (simp only [IntKind.wrap_i64,wrap64];done) | (simp;done) | (simp [*];done)),H',⟨by have := HK1.out;omega⟩,⟨by repeat (first | (with_reducible first | exact HB.out | apply below_alloc | apply pw_below_drewN | apply below_drew1) | exact HB.out)⟩⟩
       ·replace c8 := Bool.eq_false_iff.mpr c8;subst c8
        have H1 : (some false) = some r := by rw [if_neg (show ¬ (false = true) by decide)] at H;exact H
        clear H;have H := H1;clear H1;obtain rfl := Option.some.inj H;have p105 : 0 ≤ (x4_1 : Int) := of_decide_eq_true (by first | (with_reducible assumption) | assumption);have q105 : x4_1 < (l0.length : Int) := of_decide_eq_true (by first | (with_reducible assumption) | assumption);obtain ⟨ad105,e105,hx105_0,hx105_1,hx105_2⟩ := at_T34 HR0.out x4_1 p105 q105;cases e105;replace hx105_0 := (HB.out.cell (World.block_lt_of_cell? w _ hx105_0)).trans hx105_0;replace hx105_1 := (HB.out.cell (World.block_lt_of_cell? w _ hx105_1)).trans hx105_1;replace hx105_2 := (HB.out.cell (World.block_lt_of_cell? w _ hx105_2)).trans hx105_2;replace p105 := eq_true p105;replace q105 := eq_true q105
        go_wp2_with (first | ((with_reducible refine gate_callee (f := 18) rfl ?_);refine goesL_ (some 22) rfl rfl Tryd.func18 (by kernel_rfl) rfl #[.int .i64 ((rd_T34 l0 x4_1).f0),.int .i64 x3_1,.int .i64 100000] rfl (by (try simp only [List.map_toArray,List.map_cons,List.map_nil]);first | done | rfl | (simp only [List.length_drop,List.length_take];rfl)) ?_;(with_reducible refine (spec_l00In.calls ((rd_T34 l0 x4_1).f0) x3_1 100000 true _ A5.out).mono ?_);rintro e w' ⟨rfl,⟨nd,rfl⟩⟩;refine ⟨_,rfl,?_⟩;have p107 : 0 ≤ (x4_1 : Int) := of_decide_eq_true (by first | (with_reducible assumption) | assumption);have q107 : x4_1 < (l0.length : Int) := of_decide_eq_true (by first | (with_reducible assumption) | assumption);obtain ⟨ad107,e107,hx107_0,hx107_1,hx107_2⟩ := at_T34 HR0.out x4_1 p107 q107;obtain rfl : ad105 = ad107 := (by injection e107);replace hx107_0 := (HB.out.cell (World.block_lt_of_cell? w _ hx107_0)).trans hx107_0;replace hx107_1 := (HB.out.cell (World.block_lt_of_cell? w _ hx107_1)).trans hx107_1;replace hx107_2 := (HB.out.cell (World.block_lt_of_cell? w _ hx107_2)).trans hx107_2;replace p107 := eq_true p107;replace q107 := eq_true q107) | (go_at_call 18;(with_reducible refine (spec_l00In.calls ((rd_T34 l0 x4_1).f1) 0 9999 false _ A7.out).mono ?_);rintro e w' ⟨rfl,⟨nd,rfl⟩⟩))
        go_ret
        exact ⟨by first | rfl | (simp [errW_none,errW_some,IntKind.wrap_i64,wrap64];done) | (simp [errW_none,errW_some] <;> rfl) | (simp [*,errW_none,errW_some] <;> rfl),by repeat (first | (with_reducible first | exact HB.out | apply below_alloc | apply pw_below_drewN | apply below_drew1) | exact HB.out)⟩
      ·replace c6 := Bool.eq_false_iff.mpr c6;subst c6
       have H1 : (some false) = some r := by rw [if_neg (show ¬ (false = true) by decide)] at H;exact H
       clear H;have H := H1;clear H1;obtain rfl := Option.some.inj H;have p105 : 0 ≤ (x4_1 : Int) := of_decide_eq_true (by first | (with_reducible assumption) | assumption);have q105 : x4_1 < (l0.length : Int) := of_decide_eq_true (by first | (with_reducible assumption) | assumption);obtain ⟨ad105,e105,hx105_0,hx105_1,hx105_2⟩ := at_T34 HR0.out x4_1 p105 q105;cases e105;replace hx105_0 := (HB.out.cell (World.block_lt_of_cell? w _ hx105_0)).trans hx105_0;replace hx105_1 := (HB.out.cell (World.block_lt_of_cell? w _ hx105_1)).trans hx105_1;replace hx105_2 := (HB.out.cell (World.block_lt_of_cell? w _ hx105_2)).trans hx105_2;replace p105 := eq_true p105;replace q105 := eq_true q105
       go_wp2_with (first | ((with_reducible refine gate_callee (f := 18) rfl ?_);refine goesL_ (some 22) rfl rfl Tryd.func18 (by kernel_rfl) rfl #[.int .i64 ((rd_T34 l0 x4_1).f0),.int .i64 x3_1,.int .i64 100000] rfl (by (try simp only [List.map_toArray,List.map_cons,List.map_nil]);first | done | rfl | (simp only [List.length_drop,List.length_take];rfl)) ?_;(with_reducible refine (spec_l00In.calls ((rd_T34 l0 x4_1).f0) x3_1 100000 false _ A5.out).mono ?_);rintro e w' ⟨rfl,⟨nd,rfl⟩⟩;refine ⟨_,rfl,?_⟩))
       go_ret
       exact ⟨by first | rfl | (simp [errW_none,errW_some,IntKind.wrap_i64,wrap64];done) | (simp [errW_none,errW_some] <;> rfl) | (simp [*,errW_none,errW_some] <;> rfl),by repeat (first | (with_reducible first | exact HB.out | apply below_alloc | apply pw_below_drewN | apply below_drew1) | exact HB.out)⟩
     ·rw [if_neg c4] at H;exact absurd H (by simp)
    ·rw [if_neg c3] at H;have c3b0 : decide (x4_1 < (l0.length : Int)) = false := decide_eq_false c3;clear c3;replace H := Option.bind_eq_some_iff.mp H;obtain ⟨⟨t101,t102⟩,A90,H⟩ := H;replace H : (some t102) = some r := H;have A9 := Aside0.mk A90;clear A90;obtain rfl := Option.some.inj H
     go_wp2_with (first | ((with_reducible refine gate_callee (f := 19) rfl ?_);refine goesL_ (some 42) rfl rfl Tryd.func19 (by kernel_rfl) rfl #[.slice A0 l0.length c0,.int .i64 (l0.length : Int)] rfl (by (try simp only [List.map_toArray,List.map_cons,List.map_nil]);first | done | rfl | (simp only [List.length_drop,List.length_take];rfl)) ?_;(with_reducible refine (spec_l07Up.calls k1 _ _ l0 (l0.length : Int) t101 t102 _ ?side1 ?side2 A9.out).mono ?_);(case side1 => repeat (first | exact (Kd.C_below HR0.out HB.out) | (with_reducible refine Kd.C_alloc ?_ _) | (with_reducible refine Kd.C_drewN ?_ _) | (with_reducible refine Kd.C_drew ?_)));(case side2 => exact HC0.out);rintro e w10 ⟨v103,rfl,ho0,hb⟩;refine ⟨_,rfl,?_⟩;have n0_ := Aside0.mk (Kd.R_lower ho0 (below_size (by repeat (first | (with_reducible first | exact HB.out | apply below_alloc | apply pw_below_drewN | apply below_drew1) | exact HB.out))));have n1_ := Aside0.mk (below_step (by repeat (first | (with_reducible first | exact HB.out | apply below_alloc | apply pw_below_drewN | apply below_drew1) | exact HB.out)) hb);clear HB;have HO104 := n0_;have HB := n1_;clear n0_ n1_;(try clear hb);(try clear hb2);(try clear hk);(try clear hi);(try clear ho0)))
     go_ret
     exact ⟨by first | rfl | (simp [errW_none,errW_some,IntKind.wrap_i64,wrap64];done) | (simp [errW_none,errW_some] <;> rfl) | (simp [*,errW_none,errW_some] <;> rfl),by repeat (first | (with_reducible first | exact HB.out | apply below_alloc | apply pw_below_drewN | apply below_drew1) | exact HB.out)⟩
end Go.Proofs.YtmcfbnglocojkaaDoor.G
end

section
namespace Go.Proofs.YtmcfbnglocojkaaDoor.G
open Go.RowKit Go.Proofs.YtmcfbnglocojkaaDoorW.PrintWords Go.Proofs.YtmcfbnglocojkaaDoorW.PrintLast Go.Proofs.YtmcfbnglocojkaaDoorW.PrintMore
attribute [local go_sem] max2_int min2_int max_two min_two max_three min_three max_four min_four
set_option linter.unusedVariables false
set_option linter.unusedSimpArgs false
mutual
def spec_ReadLog.j0 : Nat → List ByteArray → Int → Bool → Option ((List (S34)) × Int)
 | 0,_,_,_ => none
 | k + 1,x4,x5,x26 => if x26 = true then (some ((([] : List (S34))),5)) else (spec_ReadLog.l0 k x4 x5 (([] : List (S34))) 0)
def spec_ReadLog.l0 : Nat → List ByteArray → Int → List (S34) → Int → Option ((List (S34)) × Int)
 | 0,_,_,_,_ => none
 | k + 1,x4,x5,x6,x7 => if x7 < x5 then (if 0 ≤ x7 then (if x7 < (x4.length : Int) then ((spec_l01Split.f k (rdOf ByteArray.empty x4 x7) 32).bind fun t116 => (if (t116.length : Int) = 3 then (if 1 < (t116.length : Int) then (if (rdOf ByteArray.empty t116 1).toList = ([117,112] : List UInt8) then (spec_ReadLog.j2 k x4 x5 x6 x7 t116 false) else (spec_ReadLog.j2 k x4 x5 x6 x7 t116 ((rdOf ByteArray.empty t116 1).toList != ([100,111,119,110] : List UInt8)))) else (none)) else (spec_ReadLog.j2 k x4 x5 x6 x7 t116 true))) else (none)) else (none)) else ((spec_l07Ok.f k x6).bind fun t111 => (if t111 = true then (some (x6,0)) else (some ((([] : List (S34))),5))))
def spec_ReadLog.j2 : Nat → List ByteArray → Int → List (S34) → Int → List ByteArray → Bool → Option ((List (S34)) × Int)
 | 0,_,_,_,_,_,_ => none
 | k + 1,x4,x5,x6,x7,x8,x53 => if x53 = true then (some ((([] : List (S34))),5)) else (if 0 < (x8.length : Int) then ((spec_l01Number.f k (rdOf ByteArray.empty x8 0)).bind fun bt125 => (if 2 < (x8.length : Int) then ((spec_l01Number.f k (rdOf ByteArray.empty x8 2)).bind fun bt128 => (if bt125.2 = true then (if bt128.2 = true then (if 1 < (x8.length : Int) then (if x6.length < 5864062014805 then (spec_ReadLog.l0 k x4 x5 (x6 ++ [(⟨bt125.1,bt128.1,((rdOf ByteArray.empty x8 1).toList == ([100,111,119,110] : List UInt8))⟩ : S34)]) (wrap64 (x7 + 1))) else (none)) else (none)) else (some ((([] : List (S34))),5))) else (some ((([] : List (S34))),5)))) else (none))) else (none))
end
def spec_ReadLog.f (k : Nat) (a0 : ByteArray) : Option ((List (S34)) × Int) := (spec_l01Split.f k a0 10).bind fun t101 => (if 0 ≤ (wrap64 ((t101.length : Int) - 1)) then (if (wrap64 ((t101.length : Int) - 1)) < (t101.length : Int) then (if (rdOf ByteArray.empty t101 (wrap64 ((t101.length : Int) - 1))).toList = ([] : List UInt8) then (spec_ReadLog.j0 k t101 (wrap64 ((t101.length : Int) - 1)) (decide ((wrap64 ((t101.length : Int) - 1)) > 60))) else (spec_ReadLog.j0 k t101 (wrap64 ((t101.length : Int) - 1)) true)) else (none)) else (none))
set_option maxHeartbeats 8000000 in
set_option maxRecDepth 100000 in
theorem spec_ReadLog.calls (k : Nat) (a0 : ByteArray) (r1 : List (S34)) (r2 : Int) (w : World) (h : spec_ReadLog.f k a0 = some (r1,r2)) :
  Calls Tryd.prog 4 #[.string a0] w fun e w' => ∃ v0_ : Value,e = .returned (.tuple #[v0_,.int .i64 r2]) ∧ Kd.R k34 34 w' w.heap.size (fun _ => True) v0_ r1 ∧ Below w.heap.size w w' := by
 have hu34 := Tryd.underlying34;have HB := Aside0.mk (Below.refl w.heap.size w);have H : ((spec_l01Split.f k a0 10).bind fun t101 => (if 0 ≤ (wrap64 ((t101.length : Int) - 1)) then (if (wrap64 ((t101.length : Int) - 1)) < (t101.length : Int) then (if (rdOf ByteArray.empty t101 (wrap64 ((t101.length : Int) - 1))).toList = ([] : List UInt8) then (spec_ReadLog.j0 k t101 (wrap64 ((t101.length : Int) - 1)) (decide ((wrap64 ((t101.length : Int) - 1)) > 60))) else (spec_ReadLog.j0 k t101 (wrap64 ((t101.length : Int) - 1)) true)) else (none)) else (none))) = some (r1,r2) := h;clear h;replace H := Option.bind_eq_some_iff.mp H;obtain ⟨t101,A20,H⟩ := H;replace H : (if 0 ≤ (wrap64 ((t101.length : Int) - 1)) then (if (wrap64 ((t101.length : Int) - 1)) < (t101.length : Int) then (if (rdOf ByteArray.empty t101 (wrap64 ((t101.length : Int) - 1))).toList = ([] : List UInt8) then (spec_ReadLog.j0 k t101 (wrap64 ((t101.length : Int) - 1)) (decide ((wrap64 ((t101.length : Int) - 1)) > 60))) else (spec_ReadLog.j0 k t101 (wrap64 ((t101.length : Int) - 1)) true)) else (none)) else (none)) = some (r1,r2) := H;have A2 := Aside0.mk A20;clear A20;have HC3 := Aside0.mk H;clear H
 go_enter Tryd.func4,Tryd.ntmps4
 go_upto_region 3 with (first | ((with_reducible refine gate_callee (f := 9) rfl ?_);refine goesL_ (some 14) rfl rfl Tryd.func9 (by kernel_rfl) rfl #[.string a0,.int .u8 10] rfl (by (try simp only [List.map_toArray,List.map_cons,List.map_nil]);first | done | rfl | (simp only [List.length_drop,List.length_take];rfl)) ?_;(with_reducible refine (spec_l01Split.calls k a0 10 t101 _ A2.out).mono ?_);rintro e w4 ⟨v102,rfl,ho0,hb⟩;refine ⟨_,rfl,?_⟩;have n0_ := Aside0.mk (Kd.R_lower ho0 (below_size (by repeat (first | (with_reducible first | exact HB.out | apply below_alloc | apply pw_below_drewN | apply below_drew1) | exact HB.out))));have n1_ := Aside0.mk (below_step (by repeat (first | (with_reducible first | exact HB.out | apply below_alloc | apply pw_below_drewN | apply below_drew1) | exact HB.out)) hb);clear HB;have HO103 := n0_;have HB := n1_;clear n0_ n1_;(try clear hb);(try clear hb2);(try clear hk);(try clear hi);(try clear ho0);obtain ⟨Ao5,co5,eo5⟩ := Kd.R_slice HO103.out;subst eo5))
 (try simp only [Act.put,List.setIfInBounds_toArray,List.set_cons_zero,List.set_cons_succ])
 go_cut [26] (fun v26 wc => ∃ (kq : Nat) (x26_2 : Bool),v26 = .bool x26_2 ∧ Aside0 (spec_ReadLog.j0 kq t101 (wrap64 ((t101.length : Int) - 1)) x26_2 = some (r1,r2)) ∧ Aside0 (kq ≤ k) ∧ Aside0 (Kd.R Kd.string 9 wc w.heap.size (fun _ => True) (.slice Ao5 t101.length co5) t101) ∧ Aside0 (Below w.heap.size w wc))
 case first =>
  have H := HC3.out;clear HC3;obtain ⟨ji6,hji6⟩ : ∃ j_ : Int,(wrap64 ((t101.length : Int) - 1)) = j_ := ⟨_,rfl⟩
  replace H : (if 0 ≤ (ji6) then (if (ji6) < (t101.length : Int) then (if (rdOf ByteArray.empty t101 (ji6)).toList = ([] : List UInt8) then (spec_ReadLog.j0 k t101 ji6 (decide ((ji6) > 60))) else (spec_ReadLog.j0 k t101 ji6 true)) else (none)) else (none)) = some (r1,r2) := by first | (rw [hji6] at H;exact H) | (simp only [hji6] at H ⊢;exact H)
  have hji6w : (IntKind.i64.wrap ((t101.length : Int) - 1)) = ji6 := (i64_w _).trans hji6
  by_cases c7 : 0 ≤ (ji6)
  ·rw [if_pos c7] at H;have c7b0 : decide (0 ≤ (ji6)) = true := decide_eq_true c7;clear c7;(first | rw [c7b0] | (simp only [i64_w,i32_w];rw [c7b0]) | skip)
   by_cases c8 : (ji6) < (t101.length : Int)
   ·rw [if_pos c8] at H;have c8b0 : decide ((ji6) < (t101.length : Int)) = true := decide_eq_true c8;clear c8
    by_cases c9 : (rdOf ByteArray.empty t101 (ji6)).toList = ([] : List UInt8)
    ·rw [if_pos c9] at H;have c9b0 : ((rdOf ByteArray.empty t101 (ji6)).toList == ([] : List UInt8)) = true := beq_iff_eq.mpr c9;have c9b1 : ((rdOf ByteArray.empty t101 (ji6)).toList != ([] : List UInt8)) = false := bne_eq_false_iff_eq.mpr c9;clear c9;have H' := Aside0.mk H;clear H;have p104 : 0 ≤ ((ji6) : Int) := of_decide_eq_true (by first | (with_reducible assumption) | assumption);have q104 : (ji6) < (t101.length : Int) := of_decide_eq_true (by first | (with_reducible assumption) | assumption);obtain ⟨ad104,e104,hx104_0⟩ := Kd.at_string (Kd.R_reads' HO103.out).2.2 (ji6) p104 q104;cases e104;replace p104 := eq_true p104;replace q104 := eq_true q104
     go_wp2
     go_meet
     case rel => exact ⟨_,(decide ((ji6) > 60)),(by first | rfl | (simp only [IntKind.wrap_i64,wrap64];done) | (simp;done) | (simp only [← hji6] <;> (first | rfl | simp)) | (simp [*];done)),(by first | exact H' | (rw [hji6];exact H')),⟨by first | omega | exact Nat.le_refl _⟩,⟨by (with_reducible repeat (first | apply Kd.R_alloc | apply Kd.R_drewN | apply Kd.R_drew));exact HO103.out⟩,⟨by repeat (first | (with_reducible first | exact HB.out | apply below_alloc | apply pw_below_drewN | apply below_drew1) | exact HB.out)⟩⟩
    ·rw [if_neg c9] at H;have c9b0 : ((rdOf ByteArray.empty t101 (ji6)).toList == ([] : List UInt8)) = false := beq_eq_false_iff_ne.mpr c9;have c9b1 : ((rdOf ByteArray.empty t101 (ji6)).toList != ([] : List UInt8)) = true := bne_iff_ne.mpr c9;have H' := Aside0.mk H;clear H;have p104 : 0 ≤ ((ji6) : Int) := of_decide_eq_true (by first | (with_reducible assumption) | assumption);have q104 : (ji6) < (t101.length : Int) := of_decide_eq_true (by first | (with_reducible assumption) | assumption);obtain ⟨ad104,e104,hx104_0⟩ := Kd.at_string (Kd.R_reads' HO103.out).2.2 (ji6) p104 q104;cases e104;replace p104 := eq_true p104;replace q104 := eq_true q104
     go_wp2
     go_meet
     case rel => exact ⟨_,(true),(by first | rfl | (simp only [IntKind.wrap_i64,wrap64];done) | (simp;done) | (simp [*];done)),(by first | exact H' | (rw [hji6];exact H')),⟨by first | omega | exact Nat.le_refl _⟩,⟨by (with_reducible repeat (first | apply Kd.R_alloc | apply Kd.R_drewN | apply Kd.R_drew));exact HO103.out⟩,⟨by repeat (first | (with_reducible first | exact HB.out | apply below_alloc | apply pw_below_drewN | apply below_drew1) | exact HB.out)⟩⟩
   ·rw [if_neg c8] at H;exact absurd H (by simp)
  ·rw [if_neg c7] at H;exact absurd H (by simp)
 case rest =>
  clear HC3;(try clear p1);(try clear q1);(try clear hx1);(try clear p2);(try clear c4);(try clear p6);(try clear c7);(try clear c7b0);(try clear c8);(try clear c8b0);(try clear c9);(try clear c9b0);(try clear c9b1);(try clear hx104_0);(try clear p104);(try clear q104);obtain ⟨kq,x26_2,rfl,HA,HJ2,HO_4,HB⟩ := hcut
  cases kq with
  | zero => exact absurd HA.out (by simp [spec_ReadLog.j0])
  | succ kj2 =>
   have H := HA.out;clear HA;simp only [spec_ReadLog.j0] at H
   by_cases c10 : x26_2 = true
   ·subst c10
    have H1 : (some ((([] : List (S34))),5)) = some (r1,r2) := by rw [if_pos rfl] at H;exact H
    clear H;have H := H1;clear H1;obtain ⟨y105,hy105⟩ : ∃ y_ : List (S34),y_ = (([] : List (S34))) := ⟨_,rfl⟩
    replace H : (some (y105,5)) = some (r1,r2) := by first | (rw [hy105];with_reducible exact H) | (have H2_ := (Option.bind_some _ _).symm.trans H;rw [hy105];with_reducible exact H2_) | (have H2_ := (Option.bind_some _ _).symm.trans H;with_reducible exact H2_) | with_reducible exact H | (rw [hy105];exact H) | exact H
    have Ny105 := Aside0.mk hy105;clear hy105;simp only [Option.some.injEq,Prod.mk.injEq] at H;obtain ⟨rfl,rfl⟩ := H
    go_wp2_with (first | ((with_reducible refine gate_dst (N := 27) rfl ?_);refine Kd.R_lit k34 _ 34 ?hg (N := 27) ?hd (xs := ([] : List (S34))) (inner := []) (ok := fun _ => True) (okp := fun _ => True) ?hr ?hp (fun _ hk => hk) trivial (Below.refl _ _) (Nat.le_refl _) (by simp) ?_;(case hd => rfl);(case hg => rfl);(case hr => first | (go_simp;done) | (go_simp;rfl));(case hp => exact (Reps.none _ _));intro v106 w11 ho12 hb hg_ hnew_;clear hg_ hnew_;(first | rw [← Ny105.out] at ho12 | (simp only [Int.reduceToNat] at ho12;rw [← Ny105.out] at ho12));have n0_ := Aside0.mk (Kd.R_below (by (with_reducible repeat (first | apply Kd.R_alloc | apply Kd.R_drewN | apply Kd.R_drew));exact HO_4.out) hb);have n1_ := Aside0.mk (Kd.R_lower ho12 (below_size (by repeat (first | (with_reducible first | exact HB.out | apply below_alloc | apply pw_below_drewN | apply below_drew1) | exact HB.out))));have n2_ := Aside0.mk (below_step (by repeat (first | (with_reducible first | exact HB.out | apply below_alloc | apply pw_below_drewN | apply below_drew1) | exact HB.out)) hb);clear HO_4;clear HB;have HO_4 := n0_;have HO107 := n1_;have HB := n2_;clear n0_ n1_ n2_;clear hb ho12))
    go_ret2
    exact ⟨_,by first | rfl | (simp [errW_none,errW_some,IntKind.wrap_i64,wrap64];done) | (simp [errW_none,errW_some] <;> rfl) | (simp [*,errW_none,errW_some] <;> rfl),by (with_reducible repeat (first | apply Kd.R_alloc | apply Kd.R_drewN | apply Kd.R_drew));exact HO107.out,by repeat (first | (with_reducible first | exact HB.out | apply below_alloc | apply pw_below_drewN | apply below_drew1) | exact HB.out)⟩
   ·replace c10 := Bool.eq_false_iff.mpr c10;subst c10
    have H1 : (spec_ReadLog.l0 kj2 t101 (wrap64 ((t101.length : Int) - 1)) (([] : List (S34))) 0) = some (r1,r2) := by rw [if_neg (show ¬ (false = true) by decide)] at H;exact H
    clear H;have H := H1;clear H1;obtain ⟨y108,hy108⟩ : ∃ y_ : List (S34),y_ = (([] : List (S34))) := ⟨_,rfl⟩
    replace H : (spec_ReadLog.l0 kj2 t101 (wrap64 ((t101.length : Int) - 1)) y108 0) = some (r1,r2) := by first | (rw [hy108];with_reducible exact H) | (have H2_ := (Option.bind_some _ _).symm.trans H;rw [hy108];with_reducible exact H2_) | (have H2_ := (Option.bind_some _ _).symm.trans H;with_reducible exact H2_) | with_reducible exact H | (rw [hy108];exact H) | exact H
    have Ny108 := Aside0.mk hy108;clear hy108;have H' := Aside0.mk H;clear H
    go_wp2_with (first | ((with_reducible refine gate_dst (N := 28) rfl ?_);refine Kd.R_lit k34 _ 34 ?hg (N := 28) ?hd (xs := ([] : List (S34))) (inner := []) (ok := fun _ => True) (okp := fun _ => True) ?hr ?hp (fun _ hk => hk) trivial (Below.refl _ _) (Nat.le_refl _) (by simp) ?_;(case hd => rfl);(case hg => rfl);(case hr => first | (go_simp;done) | (go_simp;rfl));(case hp => exact (Reps.none _ _));intro v109 w13 ho14 hb hg_ hnew_;clear hg_ hnew_;(first | rw [← Ny108.out] at ho14 | (simp only [Int.reduceToNat] at ho14;rw [← Ny108.out] at ho14));have n0_ := Aside0.mk (Kd.R_below (by (with_reducible repeat (first | apply Kd.R_alloc | apply Kd.R_drewN | apply Kd.R_drew));exact HO_4.out) hb);have n1_ := Aside0.mk (Kd.R_lower ho14 (below_size (by repeat (first | (with_reducible first | exact HB.out | apply below_alloc | apply pw_below_drewN | apply below_drew1) | exact HB.out))));have n2_ := Aside0.mk (below_step (by repeat (first | (with_reducible first | exact HB.out | apply below_alloc | apply pw_below_drewN | apply below_drew1) | exact HB.out)) hb);clear HO_4;clear HB;have HO_4 := n0_;have HO110 := n1_;have HB := n2_;clear n0_ n1_ n2_;clear hb ho14))
    go_loopg [6,7] kj2 (fun kq v6 v7 w' => ∃ (x6_2 : List (S34)) (x7_2 : Int),v7 = .int .i64 x7_2 ∧ Aside0 (spec_ReadLog.l0 kq t101 (wrap64 ((t101.length : Int) - 1)) x6_2 x7_2 = some (r1,r2)) ∧ Aside0 (kq ≤ kj2) ∧ Aside0 (Kd.R Kd.string 9 w' w.heap.size (fun _ => True) (.slice Ao5 t101.length co5) t101) ∧ Aside0 (Kd.R k34 34 w' w.heap.size (fun _ => True) v6 x6_2) ∧ Aside0 (Below w.heap.size w w'))
    case atStart => exact ⟨(y108),(0),(by first | rfl | (simp only [IntKind.wrap_i64,wrap64];done) | (simp;done) | (simp [*];done)),H',⟨Nat.le_refl _⟩,⟨by (with_reducible repeat (first | apply Kd.R_alloc | apply Kd.R_drewN | apply Kd.R_drew));exact HO_4.out⟩,⟨by (with_reducible repeat (first | apply Kd.R_alloc | apply Kd.R_drewN | apply Kd.R_drew));exact HO110.out⟩,⟨by repeat (first | (with_reducible first | exact HB.out | apply below_alloc | apply pw_below_drewN | apply below_drew1) | exact HB.out)⟩⟩
    case round =>
     clear H';(try clear c1);(try clear p1);(try clear q1);(try clear hx1);(try clear p2);(try clear c4);(try clear p6);(try clear c7);(try clear c7b0);(try clear c8);(try clear c8b0);(try clear c9);(try clear c9b0);(try clear c9b1);(try clear c10);(try clear p10);(try clear q10);(try clear hx10);(try clear hx104_0);(try clear p1);(try clear p104);(try clear p2);(try clear p6);(try clear q1);(try clear q104);obtain ⟨x6_2,x7_2,rfl,HA,HK2,HO_4,HO_6,HB⟩ := hrel
     cases gk with
     | zero => exact absurd HA.out (by simp [spec_ReadLog.l0])
     | succ k2 =>
      have H := HA.out;clear HA;simp only [spec_ReadLog.l0] at H
      by_cases c15 : x7_2 < (wrap64 ((t101.length : Int) - 1))
      ·rw [if_pos c15] at H;have c15b0 : decide (x7_2 < (wrap64 ((t101.length : Int) - 1))) = true := decide_eq_true c15;clear c15
       by_cases c16 : 0 ≤ x7_2
       ·rw [if_pos c16] at H;have c16b0 : decide (0 ≤ x7_2) = true := decide_eq_true c16;clear c16
        by_cases c17 : x7_2 < (t101.length : Int)
        ·rw [if_pos c17] at H;have c17b0 : decide (x7_2 < (t101.length : Int)) = true := decide_eq_true c17;clear c17;replace H := Option.bind_eq_some_iff.mp H;obtain ⟨t116,A180,H⟩ := H;replace H : (if (t116.length : Int) = 3 then (if 1 < (t116.length : Int) then (if (rdOf ByteArray.empty t116 1).toList = ([117,112] : List UInt8) then (spec_ReadLog.j2 k2 t101 (wrap64 ((t101.length : Int) - 1)) x6_2 x7_2 t116 false) else (spec_ReadLog.j2 k2 t101 (wrap64 ((t101.length : Int) - 1)) x6_2 x7_2 t116 ((rdOf ByteArray.empty t116 1).toList != ([100,111,119,110] : List UInt8)))) else (none)) else (spec_ReadLog.j2 k2 t101 (wrap64 ((t101.length : Int) - 1)) x6_2 x7_2 t116 true)) = some (r1,r2) := H;have A18 := Aside0.mk A180;clear A180;have HC19 := Aside0.mk H;clear H;have p115 : 0 ≤ (x7_2 : Int) := of_decide_eq_true (by first | (with_reducible assumption) | assumption);have q115 : x7_2 < (t101.length : Int) := of_decide_eq_true (by first | (with_reducible assumption) | assumption);obtain ⟨ad115,e115,hx115_0⟩ := Kd.at_string (Kd.R_reads' HO_4.out).2.2 x7_2 p115 q115;cases e115;replace p115 := eq_true p115;replace q115 := eq_true q115
         go_upto_region 10 with (first | ((with_reducible refine gate_callee (f := 9) rfl ?_);refine goesL_ (some 38) rfl rfl Tryd.func9 (by kernel_rfl) rfl #[.string (rdOf ByteArray.empty t101 x7_2),.int .u8 32] rfl (by (try simp only [List.map_toArray,List.map_cons,List.map_nil]);first | done | rfl | (simp only [List.length_drop,List.length_take];rfl)) ?_;(with_reducible refine (spec_l01Split.calls k2 (rdOf ByteArray.empty t101 x7_2) 32 t116 _ A18.out).mono ?_);rintro e w20 ⟨v117,rfl,ho0,hb⟩;refine ⟨_,rfl,?_⟩;have n0_ := Aside0.mk (Kd.R_elder' (by (with_reducible repeat (first | apply Kd.R_alloc | apply Kd.R_drewN | apply Kd.R_drew));exact HO_4.out) (Kd.R_base ho0) hb);have n1_ := Aside0.mk (Kd.R_below (by (with_reducible repeat (first | apply Kd.R_alloc | apply Kd.R_drewN | apply Kd.R_drew));exact HO_6.out) hb);have n2_ := Aside0.mk (Kd.R_lower (Kd.R_new' ho0 (Kd.R_lt (by (with_reducible repeat (first | apply Kd.R_alloc | apply Kd.R_drewN | apply Kd.R_drew));exact HO_4.out))) (below_size (by repeat (first | (with_reducible first | exact HB.out | apply below_alloc | apply pw_below_drewN | apply below_drew1) | exact HB.out))));have n3_ := Aside0.mk (below_step (by repeat (first | (with_reducible first | exact HB.out | apply below_alloc | apply pw_below_drewN | apply below_drew1) | exact HB.out)) hb);clear HO_4;clear HO_6;clear HB;have HO_4 := n0_;have HO_6 := n1_;have HO118 := n2_;have HB := n3_;clear n0_ n1_ n2_ n3_;(try clear hb);(try clear hb2);(try clear hk);(try clear hi);(try clear ho0)))
         (try simp only [Act.put,List.setIfInBounds_toArray,List.set_cons_zero,List.set_cons_succ])
         go_cut [53] (fun v53 wc => ∃ (kq : Nat) (x53_18 : Bool),v53 = .bool x53_18 ∧ Aside0 (spec_ReadLog.j2 kq t101 (wrap64 ((t101.length : Int) - 1)) x6_2 x7_2 t116 x53_18 = some (r1,r2)) ∧ Aside0 (kq ≤ k2) ∧ Aside0 (Kd.R Kd.string 9 wc w.heap.size (fun k_ => some k_ ≠ (v117 : Value).ownBlock) (.slice (some ad115) t101.length co5) t101) ∧ Aside0 (Kd.R k34 34 wc w.heap.size (fun _ => True) u6 x6_2) ∧ Aside0 (Kd.R Kd.string 9 wc w.heap.size (fun k_ => some k_ ≠ ((.slice (some ad115) t101.length co5) : Value).ownBlock) v117 t116) ∧ Aside0 (Below w.heap.size w wc))
         case first =>
          have H := HC19.out;clear HC19
          by_cases c21 : (t116.length : Int) = 3
          ·rw [if_pos c21] at H;have c21b0 : ((t116.length : Int) == 3) = true := beq_iff_eq.mpr c21;have c21b1 : ((t116.length : Int) != 3) = false := bne_eq_false_iff_eq.mpr c21;clear c21;(first | rw [c21b0] | (simp only [i64_w,i32_w];rw [c21b0]) | skip)
           by_cases c22 : 1 < (t116.length : Int)
           ·rw [if_pos c22] at H;have c22b0 : decide (1 < (t116.length : Int)) = true := decide_eq_true c22;have c22b1 : decide (1 < t116.length) = true := decide_eq_true (by omega);clear c22
            by_cases c23 : (rdOf ByteArray.empty t116 1).toList = ([117,112] : List UInt8)
            ·rw [if_pos c23] at H;have c23b0 : ((rdOf ByteArray.empty t116 1).toList == ([117,112] : List UInt8)) = true := beq_iff_eq.mpr c23;have c23b1 : ((rdOf ByteArray.empty t116 1).toList != ([117,112] : List UInt8)) = false := bne_eq_false_iff_eq.mpr c23;clear c23;have H' := Aside0.mk H;clear H;obtain ⟨Ao24,co24,eo24⟩ := Kd.R_slice HO118.out;subst eo24;have p119 : 0 ≤ (1 : Int) := (by omega);have q119 : 1 < (t116.length : Int) := of_decide_eq_true (by first | (with_reducible assumption) | assumption);obtain ⟨ad119,e119,hx119_0⟩ := Kd.at_string (Kd.R_reads' HO118.out).2.2 1 p119 q119;cases e119;(try simp only [show (1 : Int).toNat = 1 from rfl,Nat.reduceMul,Nat.reduceEqDiff,Go.Addr.add,↓reduceIte] at hx119_0);have qi119 : (1 < t116.length) = True := eq_true (by omega);(try rw [show ((1 : Int)).toNat = 1 from rfl] at hx119_0);replace p119 := eq_true p119;replace q119 := eq_true q119
             go_wp2
             go_meet
             case rel => exact ⟨_,(false),(by first | rfl | (simp only [IntKind.wrap_i64,wrap64];done) | (simp;done) | (simp [*];done)),(by first | exact H' | (rw [hji6];exact H')),⟨by have := HJ2.out;have := HK2.out;first | omega | exact Nat.le_refl _⟩,⟨by (with_reducible repeat (first | apply Kd.R_alloc | apply Kd.R_drewN | apply Kd.R_drew));exact Kd.R_mono HO_4.out (fun _ hk => hk.2)⟩,⟨by (with_reducible repeat (first | apply Kd.R_alloc | apply Kd.R_drewN | apply Kd.R_drew));exact HO_6.out⟩,⟨by (with_reducible repeat (first | apply Kd.R_alloc | apply Kd.R_drewN | apply Kd.R_drew));exact Kd.R_mono HO118.out (fun _ hk => hk.2)⟩,⟨by repeat (first | (with_reducible first | exact HB.out | apply below_alloc | apply pw_below_drewN | apply below_drew1) | exact HB.out)⟩⟩
            ·rw [if_neg c23] at H;have c23b0 : ((rdOf ByteArray.empty t116 1).toList == ([117,112] : List UInt8)) = false := beq_eq_false_iff_ne.mpr c23;have c23b1 : ((rdOf ByteArray.empty t116 1).toList != ([117,112] : List UInt8)) = true := bne_iff_ne.mpr c23;have H' := Aside0.mk H;clear H;obtain ⟨Ao25,co25,eo25⟩ := Kd.R_slice HO118.out;subst eo25;have p119 : 0 ≤ (1 : Int) := (by omega);have q119 : 1 < (t116.length : Int) := of_decide_eq_true (by first | (with_reducible assumption) | assumption);obtain ⟨ad119,e119,hx119_0⟩ := Kd.at_string (Kd.R_reads' HO118.out).2.2 1 p119 q119;cases e119;(try simp only [show (1 : Int).toNat = 1 from rfl,Nat.reduceMul,Nat.reduceEqDiff,Go.Addr.add,↓reduceIte] at hx119_0);have qi119 : (1 < t116.length) = True := eq_true (by omega);(try rw [show ((1 : Int)).toNat = 1 from rfl] at hx119_0);replace p119 := eq_true p119;replace q119 := eq_true q119;have p120 : 0 ≤ (1 : Int) := (by omega);have q120 : 1 < (t116.length : Int) := of_decide_eq_true (by first | (with_reducible assumption) | assumption);obtain ⟨ad120,e120,hx120_0⟩ := Kd.at_string (Kd.R_reads' HO118.out).2.2 1 p120 q120;obtain rfl : ad119 = ad120 := (by injection e120);(try simp only [show (1 : Int).toNat = 1 from rfl,Nat.reduceMul,Nat.reduceEqDiff,Go.Addr.add,↓reduceIte] at hx120_0);have qi120 : (1 < t116.length) = True := eq_true (by omega);(try rw [show ((1 : Int)).toNat = 1 from rfl] at hx120_0);replace p120 := eq_true p120;replace q120 := eq_true q120
             go_wp2
             go_meet
             case rel => exact ⟨_,(((rdOf ByteArray.empty t116 1).toList != ([100,111,119,110] : List UInt8))),(by first | rfl | (simp only [IntKind.wrap_i64,wrap64];done) | (simp;done) | (simp [*];done)),(by first | exact H' | (rw [hji6];exact H')),⟨by have := HJ2.out;have := HK2.out;first | omega | exact Nat.le_refl _⟩,⟨by (with_reducible repeat (first | apply Kd.R_alloc | apply Kd.R_drewN | apply Kd.R_drew));exact Kd.R_mono HO_4.out (fun _ hk => hk.2)⟩,⟨by (with_reducible repeat (first | apply Kd.R_alloc | apply Kd.R_drewN | apply Kd.R_drew));exact HO_6.out⟩,⟨by (with_reducible repeat (first | apply Kd.R_alloc | apply Kd.R_drewN | apply Kd.R_drew));exact Kd.R_mono HO118.out (fun _ hk => hk.2)⟩,⟨by repeat (first | (with_reducible first | exact HB.out | apply below_alloc | apply pw_below_drewN | apply below_drew1) | exact HB.out)⟩⟩
           ·rw [if_neg c22] at H;exact absurd H (by simp)
          ·rw [if_neg c21] at H;have c21b0 : ((t116.length : Int) == 3) = false := beq_eq_false_iff_ne.mpr c21;have c21b1 : ((t116.length : Int) != 3) = true := bne_iff_ne.mpr c21;(first | rw [c21b0] | (simp only [i64_w,i32_w];rw [c21b0]) | skip);have H' := Aside0.mk H;clear H;obtain ⟨Ao26,co26,eo26⟩ := Kd.R_slice HO118.out;subst eo26
           go_wp2
           go_meet
           case rel => exact ⟨_,(true),(by first | rfl | (simp only [IntKind.wrap_i64,wrap64];done) | (simp;done) | (simp [*];done)),(by first | exact H' | (rw [hji6];exact H')),⟨by have := HJ2.out;have := HK2.out;first | omega | exact Nat.le_refl _⟩,⟨by (with_reducible repeat (first | apply Kd.R_alloc | apply Kd.R_drewN | apply Kd.R_drew));exact Kd.R_mono HO_4.out (fun _ hk => hk.2)⟩,⟨by (with_reducible repeat (first | apply Kd.R_alloc | apply Kd.R_drewN | apply Kd.R_drew));exact HO_6.out⟩,⟨by (with_reducible repeat (first | apply Kd.R_alloc | apply Kd.R_drewN | apply Kd.R_drew));exact Kd.R_mono HO118.out (fun _ hk => hk.2)⟩,⟨by repeat (first | (with_reducible first | exact HB.out | apply below_alloc | apply pw_below_drewN | apply below_drew1) | exact HB.out)⟩⟩
         case rest =>
          clear HC19;(try clear c1);(try clear p1);(try clear q1);(try clear hx1);(try clear qi1);(try clear c2);(try clear p2);(try clear c4);(try clear p6);(try clear c7);(try clear c7b0);(try clear c8);(try clear c8b0);(try clear c9);(try clear c9b0);(try clear c9b1);(try clear c10);(try clear p10);(try clear q10);(try clear hx10);(try clear p11);(try clear q11);(try clear hx11);(try clear qi11);(try clear p12);(try clear q12);(try clear hx12);(try clear qi12);(try clear c15);(try clear c15b0);(try clear c16);(try clear c16b0);(try clear c17);(try clear c17b0);(try clear c21);(try clear c21b0);(try clear c21b1);(try clear c22);(try clear c22b0);(try clear c22b1);(try clear c23);(try clear c23b0);(try clear c23b1);(try clear hx104_0);(try clear hx115_0);(try clear hx119_0);(try clear hx120_0);(try clear p1);(try clear p10);(try clear p104);(try clear p115);(try clear p119);(try clear p120);(try clear p2);(try clear p6);(try clear q1);(try clear q10);(try clear q104);(try clear q115);(try clear q119);(try clear q120);obtain ⟨kq,x53_18,rfl,HA,HJ18,HO_4,HO_6,HO_8,HB⟩ := hcut
          cases kq with
          | zero => exact absurd HA.out (by simp [spec_ReadLog.j2])
          | succ kj18 =>
           have H := HA.out;clear HA;simp only [spec_ReadLog.j2] at H
           by_cases c27 : x53_18 = true
           ·subst c27
            have H1 : (some ((([] : List (S34))),5)) = some (r1,r2) := by rw [if_pos rfl] at H;exact H
            clear H;have H := H1;clear H1;obtain ⟨y121,hy121⟩ : ∃ y_ : List (S34),y_ = (([] : List (S34))) := ⟨_,rfl⟩
            replace H : (some (y121,5)) = some (r1,r2) := by first | (rw [hy121];with_reducible exact H) | (have H2_ := (Option.bind_some _ _).symm.trans H;rw [hy121];with_reducible exact H2_) | (have H2_ := (Option.bind_some _ _).symm.trans H;with_reducible exact H2_) | with_reducible exact H | (rw [hy121];exact H) | exact H
            have Ny121 := Aside0.mk hy121;clear hy121;simp only [Option.some.injEq,Prod.mk.injEq] at H;obtain ⟨rfl,rfl⟩ := H
            go_wp2_with (first | ((with_reducible refine gate_dst (N := 54) rfl ?_);refine Kd.R_lit k34 _ 34 ?hg (N := 54) ?hd (xs := ([] : List (S34))) (inner := []) (ok := fun _ => True) (okp := fun _ => True) ?hr ?hp (fun _ hk => hk) trivial (Below.refl _ _) (Nat.le_refl _) (by simp) ?_;(case hd => rfl);(case hg => rfl);(case hr => first | (go_simp;done) | (go_simp;rfl));(case hp => exact (Reps.none _ _));intro v122 w28 ho29 hb hg_ hnew_;clear hg_ hnew_;(first | rw [← Ny121.out] at ho29 | (simp only [Int.reduceToNat] at ho29;rw [← Ny121.out] at ho29));have n0_ := Aside0.mk (Kd.R_below (by (with_reducible repeat (first | apply Kd.R_alloc | apply Kd.R_drewN | apply Kd.R_drew));exact HO_4.out) hb);have n1_ := Aside0.mk (Kd.R_elder' (by (with_reducible repeat (first | apply Kd.R_alloc | apply Kd.R_drewN | apply Kd.R_drew));exact HO_6.out) (Kd.R_base ho29) hb);have n2_ := Aside0.mk (Kd.R_below (by (with_reducible repeat (first | apply Kd.R_alloc | apply Kd.R_drewN | apply Kd.R_drew));exact HO_8.out) hb);have n3_ := Aside0.mk (Kd.R_lower (Kd.R_new' ho29 (Kd.R_lt (by (with_reducible repeat (first | apply Kd.R_alloc | apply Kd.R_drewN | apply Kd.R_drew));exact HO_6.out))) (below_size (by repeat (first | (with_reducible first | exact HB.out | apply below_alloc | apply pw_below_drewN | apply below_drew1) | exact HB.out))));have n4_ := Aside0.mk (below_step (by repeat (first | (with_reducible first | exact HB.out | apply below_alloc | apply pw_below_drewN | apply below_drew1) | exact HB.out)) hb);clear HO_4;clear HO_6;clear HO_8;clear HB;have HO_4 := n0_;have HO_6 := n1_;have HO_8 := n2_;have HO123 := n3_;have HB := n4_;clear n0_ n1_ n2_ n3_ n4_;clear hb ho29))
            go_ret2
            exact ⟨_,by first | rfl | (simp [errW_none,errW_some,IntKind.wrap_i64,wrap64];done) | (simp [errW_none,errW_some] <;> rfl) | (simp [*,errW_none,errW_some] <;> rfl),by (with_reducible repeat (first | apply Kd.R_alloc | apply Kd.R_drewN | apply Kd.R_drew));exact Kd.R_mono HO123.out (fun _ hk => trivial),by repeat (first | (with_reducible first | exact HB.out | apply below_alloc | apply pw_below_drewN | apply below_drew1) | exact HB.out)⟩
           ·replace c27 := Bool.eq_false_iff.mpr c27;subst c27
            have H1 : (if 0 < (t116.length : Int) then ((spec_l01Number.f kj18 (rdOf ByteArray.empty t116 0)).bind fun bt125 => (if 2 < (t116.length : Int) then ((spec_l01Number.f kj18 (rdOf ByteArray.empty t116 2)).bind fun bt128 => (if bt125.2 = true then (if bt128.2 = true then (if 1 < (t116.length : Int) then (if x6_2.length < 5864062014805 then (spec_ReadLog.l0 kj18 t101 (wrap64 ((t101.length : Int) - 1)) (x6_2 ++ [(⟨bt125.1,bt128.1,((rdOf ByteArray.empty t116 1).toList == ([100,111,119,110] : List UInt8))⟩ : S34)]) (wrap64 (x7_2 + 1))) else (none)) else (none)) else (some ((([] : List (S34))),5))) else (some ((([] : List (S34))),5)))) else (none))) else (none)) = some (r1,r2) := by rw [if_neg (show ¬ (false = true) by decide)] at H;exact H
            clear H;have H := H1;clear H1
            by_cases c30 : 0 < (t116.length : Int)
            ·rw [if_pos c30] at H;have c30b0 : decide (0 < (t116.length : Int)) = true := decide_eq_true c30;have c30b1 : decide (0 < t116.length) = true := decide_eq_true (by omega);clear c30;replace H := Option.bind_eq_some_iff.mp H;obtain ⟨⟨t125,t126⟩,A310,H⟩ := H;replace H : (if 2 < (t116.length : Int) then ((spec_l01Number.f kj18 (rdOf ByteArray.empty t116 2)).bind fun bt128 => (if t126 = true then (if bt128.2 = true then (if 1 < (t116.length : Int) then (if x6_2.length < 5864062014805 then (spec_ReadLog.l0 kj18 t101 (wrap64 ((t101.length : Int) - 1)) (x6_2 ++ [(⟨t125,bt128.1,((rdOf ByteArray.empty t116 1).toList == ([100,111,119,110] : List UInt8))⟩ : S34)]) (wrap64 (x7_2 + 1))) else (none)) else (none)) else (some ((([] : List (S34))),5))) else (some ((([] : List (S34))),5)))) else (none)) = some (r1,r2) := H;have A31 := Aside0.mk A310;clear A310
             by_cases c32 : 2 < (t116.length : Int)
             ·rw [if_pos c32] at H;have c32b0 : decide (2 < (t116.length : Int)) = true := decide_eq_true c32;have c32b1 : decide (2 < t116.length) = true := decide_eq_true (by omega);clear c32;replace H := Option.bind_eq_some_iff.mp H;obtain ⟨⟨t128,t129⟩,A330,H⟩ := H;replace H : (if t126 = true then (if t129 = true then (if 1 < (t116.length : Int) then (if x6_2.length < 5864062014805 then (spec_ReadLog.l0 kj18 t101 (wrap64 ((t101.length : Int) - 1)) (x6_2 ++ [(⟨t125,t128,((rdOf ByteArray.empty t116 1).toList == ([100,111,119,110] : List UInt8))⟩ : S34)]) (wrap64 (x7_2 + 1))) else (none)) else (none)) else (some ((([] : List (S34))),5))) else (some ((([] : List (S34))),5))) = some (r1,r2) := H;have A33 := Aside0.mk A330;clear A330
              by_cases c34 : t126 = true
              ·subst c34
               have H1 : (if t129 = true then (if 1 < (t116.length : Int) then (if x6_2.length < 5864062014805 then (spec_ReadLog.l0 kj18 t101 (wrap64 ((t101.length : Int) - 1)) (x6_2 ++ [(⟨t125,t128,((rdOf ByteArray.empty t116 1).toList == ([100,111,119,110] : List UInt8))⟩ : S34)]) (wrap64 (x7_2 + 1))) else (none)) else (none)) else (some ((([] : List (S34))),5))) = some (r1,r2) := by rw [if_pos rfl] at H;exact H
               clear H;have H := H1;clear H1
               by_cases c35 : t129 = true
               ·subst c35
                have H1 : (if 1 < (t116.length : Int) then (if x6_2.length < 5864062014805 then (spec_ReadLog.l0 kj18 t101 (wrap64 ((t101.length : Int) - 1)) (x6_2 ++ [(⟨t125,t128,((rdOf ByteArray.empty t116 1).toList == ([100,111,119,110] : List UInt8))⟩ : S34)]) (wrap64 (x7_2 + 1))) else (none)) else (none)) = some (r1,r2) := by rw [if_pos rfl] at H;exact H
                clear H;have H := H1;clear H1
                by_cases c36 : 1 < (t116.length : Int)
                ·rw [if_pos c36] at H;have c36b0 : decide (1 < (t116.length : Int)) = true := decide_eq_true c36;have c36b1 : decide (1 < t116.length) = true := decide_eq_true (by omega);clear c36
                 by_cases c37 : x6_2.length < 5864062014805
                 ·rw [if_pos c37] at H;have LMc37 := Aside0.mk c37;clear c37;obtain ⟨y131,hy131⟩ : ∃ y_ : List (S34),y_ = (x6_2 ++ [(⟨t125,t128,((rdOf ByteArray.empty t116 1).toList == ([100,111,119,110] : List UInt8))⟩ : S34)]) := ⟨_,rfl⟩
                  replace H : (spec_ReadLog.l0 kj18 t101 (wrap64 ((t101.length : Int) - 1)) y131 (wrap64 (x7_2 + 1))) = some (r1,r2) := by first | (rw [hy131];with_reducible exact H) | (have H2_ := (Option.bind_some _ _).symm.trans H;rw [hy131];with_reducible exact H2_) | (have H2_ := (Option.bind_some _ _).symm.trans H;with_reducible exact H2_) | with_reducible exact H | (rw [hy131];exact H) | exact H
                  have Ny131 := Aside0.mk hy131;clear hy131;have H' := Aside0.mk H;clear H;obtain ⟨Ao38,co38,eo38⟩ := Kd.R_slice HO_8.out;subst eo38;have p124 : 0 ≤ (0 : Int) := (by omega);have q124 : 0 < (t116.length : Int) := of_decide_eq_true (by first | (with_reducible assumption) | assumption);obtain ⟨ad124,e124,hx124_0⟩ := Kd.at_string (Kd.R_reads' HO_8.out).2.2 0 p124 q124;cases e124;have qi124 : (0 < t116.length) = True := eq_true (by omega);(try rw [show ((0 : Int)).toNat = 0 from rfl] at hx124_0);(try rw [Addr.add_zero'] at hx124_0);replace p124 := eq_true p124;replace q124 := eq_true q124
                  go_wp2_with (first | ((with_reducible refine gate_callee (f := 10) rfl ?_);refine goesL_ (some 59) rfl rfl Tryd.func10 (by kernel_rfl) rfl #[.string (rdOf ByteArray.empty t116 0)] rfl (by (try simp only [List.map_toArray,List.map_cons,List.map_nil]);first | done | rfl | (simp only [List.length_drop,List.length_take];rfl)) ?_;(with_reducible refine (spec_l01Number.calls kj18 (rdOf ByteArray.empty t116 0) t125 true _ A31.out).mono ?_);rintro e w' ⟨rfl,⟨nd,rfl⟩⟩;refine ⟨_,rfl,?_⟩;have p127 : 0 ≤ (2 : Int) := (by omega);have q127 : 2 < (t116.length : Int) := of_decide_eq_true (by first | (with_reducible assumption) | assumption);obtain ⟨ad127,e127,hx127_0⟩ := Kd.at_string (Kd.R_reads' HO_8.out).2.2 2 p127 q127;obtain rfl : ad124 = ad127 := (by injection e127);(try simp only [show (2 : Int).toNat = 2 from rfl,Nat.reduceMul,Nat.reduceEqDiff,Go.Addr.add,↓reduceIte] at hx127_0);have qi127 : (2 < t116.length) = True := eq_true (by omega);(try rw [show ((2 : Int)).toNat = 2 from rfl] at hx127_0);replace p127 := eq_true p127;replace q127 := eq_true q127) | ((with_reducible refine gate_callee (f := 10) rfl ?_);refine goesL_ (some 66) rfl rfl Tryd.func10 (by kernel_rfl) rfl #[.string (rdOf ByteArray.empty t116 2)] rfl (by (try simp only [List.map_toArray,List.map_cons,List.map_nil]);first | done | rfl | (simp only [List.length_drop,List.length_take];rfl)) ?_;(with_reducible refine (spec_l01Number.calls kj18 (rdOf ByteArray.empty t116 2) t128 true _ A33.out).mono ?_);rintro e w' ⟨rfl,⟨nd,rfl⟩⟩;refine ⟨_,rfl,?_⟩;have p130 : 0 ≤ (1 : Int) := (by omega);have q130 : 1 < (t116.length : Int) := of_decide_eq_true (by first | (with_reducible assumption) | assumption);obtain ⟨ad130,e130,hx130_0⟩ := Kd.at_string (Kd.R_reads' HO_8.out).2.2 1 p130 q130;obtain rfl : ad124 = ad130 := (by injection e130);(try simp only [show (1 : Int).toNat = 1 from rfl,Nat.reduceMul,Nat.reduceEqDiff,Go.Addr.add,↓reduceIte] at hx130_0);have qi130 : (1 < t116.length) = True := eq_true (by omega);(try rw [show ((1 : Int)).toNat = 1 from rfl] at hx130_0);replace p130 := eq_true p130;replace q130 := eq_true q130) | ((with_reducible refine gate_builtin (b := .append) (xs := #[.tmp 76,.tmp 84]) rfl ?_);at_builtin;refine Kd.R_append k34 (w0 := w) w.heap.size rfl (.tmp 76) (.tmp 84) 23 34 (.agg #[(.int .i64 0),(.int .i64 0),(.bool false)]) 24 rfl Tryd.underlying23 info34 rfl (by decide) (by omega) u6 x6_2 (⟨t125,t128,((rdOf ByteArray.empty t116 1).toList == ([100,111,119,110] : List UInt8))⟩ : S34) [.int .i64 t125,.int .i64 t128,.bool ((rdOf ByteArray.empty t116 1).toList == ([100,111,119,110] : List UInt8))] (fun _ => True) (fun _ => False) rfl rfl ?aP (fun _ hk => hk.elim) ?aF ?aO ?aB ?aS ?aL ?_;(case aP => exact k34_mkM _ _ _ (⟨t125,t128,((rdOf ByteArray.empty t116 1).toList == ([100,111,119,110] : List UInt8))⟩ : S34));(case aB => exact (by repeat (first | (with_reducible first | exact HB.out | apply below_alloc | apply pw_below_drewN | apply below_drew1) | exact HB.out)));(case aF => exact (fun _ _ => trivial));(case aO => exact (by (with_reducible repeat (first | apply Kd.R_alloc | apply Kd.R_drewN | apply Kd.R_drew));exact HO_6.out));(case aS => exact (below_size (by repeat (first | (with_reducible first | exact HB.out | apply below_alloc | apply pw_below_drewN | apply below_drew1) | exact HB.out))));(case aL => have := LMc37.out;omega);intro v132 w39 ho hb hg hat;rw [← Ny131.out] at ho;have n0_ := Aside0.mk (Kd.R_over' (by (with_reducible repeat (first | apply Kd.R_alloc | apply Kd.R_drewN | apply Kd.R_drew));exact HO_4.out) (Kd.R_typed (by (with_reducible repeat (first | apply Kd.R_alloc | apply Kd.R_drewN | apply Kd.R_drew));exact HO_6.out)) (by decide) hg);have n1_ := Aside0.mk (Kd.R_over' (by (with_reducible repeat (first | apply Kd.R_alloc | apply Kd.R_drewN | apply Kd.R_drew));exact HO_8.out) (Kd.R_typed (by (with_reducible repeat (first | apply Kd.R_alloc | apply Kd.R_drewN | apply Kd.R_drew));exact HO_6.out)) (by decide) hg);have n2_ := Aside0.mk (hb);have n3_ := Aside0.mk (ho);clear HO_4;clear HO_8;clear HB;clear HO_6;have HO_4 := n0_;have HO_8 := n1_;have HB := n2_;have HO133 := n3_;clear n0_ n1_ n2_ n3_;clear ho hb hg hat))
                  go_roundg kj18
                  case measure => have := HJ2.out;have := HK2.out;have := HJ18.out;omega
                  case rel => exact ⟨(y131),(wrap64 (x7_2 + 1)),(by first | rfl | (simp only [IntKind.wrap_i64,wrap64];done) | (simp;done) | (simp [*];done)),(by first | exact H' | (rw [hji6];exact H')),⟨by have := HJ2.out;have := HK2.out;have := HJ18.out;omega⟩,⟨by (with_reducible repeat (first | apply Kd.R_alloc | apply Kd.R_drewN | apply Kd.R_drew));exact Kd.R_mono HO_4.out (fun _ hk => trivial)⟩,⟨by (with_reducible repeat (first | apply Kd.R_alloc | apply Kd.R_drewN | apply Kd.R_drew));exact HO133.out⟩,⟨by repeat (first | (with_reducible first | exact HB.out | apply below_alloc | apply pw_below_drewN | apply below_drew1) | exact HB.out)⟩⟩
                 ·rw [if_neg c37] at H;exact absurd H (by simp)
                ·rw [if_neg c36] at H;exact absurd H (by simp)
               ·replace c35 := Bool.eq_false_iff.mpr c35;subst c35
                have H1 : (some ((([] : List (S34))),5)) = some (r1,r2) := by rw [if_neg (show ¬ (false = true) by decide)] at H;exact H
                clear H;have H := H1;clear H1;obtain ⟨y134,hy134⟩ : ∃ y_ : List (S34),y_ = (([] : List (S34))) := ⟨_,rfl⟩
                replace H : (some (y134,5)) = some (r1,r2) := by first | (rw [hy134];with_reducible exact H) | (have H2_ := (Option.bind_some _ _).symm.trans H;rw [hy134];with_reducible exact H2_) | (have H2_ := (Option.bind_some _ _).symm.trans H;with_reducible exact H2_) | with_reducible exact H | (rw [hy134];exact H) | exact H
                have Ny134 := Aside0.mk hy134;clear hy134;simp only [Option.some.injEq,Prod.mk.injEq] at H;obtain ⟨rfl,rfl⟩ := H;obtain ⟨Ao40,co40,eo40⟩ := Kd.R_slice HO_8.out;subst eo40;have p124 : 0 ≤ (0 : Int) := (by omega);have q124 : 0 < (t116.length : Int) := of_decide_eq_true (by first | (with_reducible assumption) | assumption);obtain ⟨ad124,e124,hx124_0⟩ := Kd.at_string (Kd.R_reads' HO_8.out).2.2 0 p124 q124;cases e124;have qi124 : (0 < t116.length) = True := eq_true (by omega);(try rw [show ((0 : Int)).toNat = 0 from rfl] at hx124_0);(try rw [Addr.add_zero'] at hx124_0);replace p124 := eq_true p124;replace q124 := eq_true q124
                go_wp2_with (first | ((with_reducible refine gate_callee (f := 10) rfl ?_);refine goesL_ (some 59) rfl rfl Tryd.func10 (by kernel_rfl) rfl #[.string (rdOf ByteArray.empty t116 0)] rfl (by (try simp only [List.map_toArray,List.map_cons,List.map_nil]);first | done | rfl | (simp only [List.length_drop,List.length_take];rfl)) ?_;(with_reducible refine (spec_l01Number.calls kj18 (rdOf ByteArray.empty t116 0) t125 true _ A31.out).mono ?_);rintro e w' ⟨rfl,⟨nd,rfl⟩⟩;refine ⟨_,rfl,?_⟩;have p127 : 0 ≤ (2 : Int) := (by omega);have q127 : 2 < (t116.length : Int) := of_decide_eq_true (by first | (with_reducible assumption) | assumption);obtain ⟨ad127,e127,hx127_0⟩ := Kd.at_string (Kd.R_reads' HO_8.out).2.2 2 p127 q127;obtain rfl : ad124 = ad127 := (by injection e127);(try simp only [show (2 : Int).toNat = 2 from rfl,Nat.reduceMul,Nat.reduceEqDiff,Go.Addr.add,↓reduceIte] at hx127_0);have qi127 : (2 < t116.length) = True := eq_true (by omega);(try rw [show ((2 : Int)).toNat = 2 from rfl] at hx127_0);replace p127 := eq_true p127;replace q127 := eq_true q127) | ((with_reducible refine gate_callee (f := 10) rfl ?_);refine goesL_ (some 66) rfl rfl Tryd.func10 (by kernel_rfl) rfl #[.string (rdOf ByteArray.empty t116 2)] rfl (by (try simp only [List.map_toArray,List.map_cons,List.map_nil]);first | done | rfl | (simp only [List.length_drop,List.length_take];rfl)) ?_;(with_reducible refine (spec_l01Number.calls kj18 (rdOf ByteArray.empty t116 2) t128 false _ A33.out).mono ?_);rintro e w' ⟨rfl,⟨nd,rfl⟩⟩;refine ⟨_,rfl,?_⟩) | ((with_reducible refine gate_dst (N := 75) rfl ?_);refine Kd.R_lit k34 _ 34 ?hg (N := 75) ?hd (xs := ([] : List (S34))) (inner := []) (ok := fun _ => True) (okp := fun _ => True) ?hr ?hp (fun _ hk => hk) trivial (Below.refl _ _) (Nat.le_refl _) (by simp) ?_;(case hd => rfl);(case hg => rfl);(case hr => first | (go_simp;done) | (go_simp;rfl));(case hp => exact (Reps.none _ _));intro v135 w41 ho42 hb hg_ hnew_;clear hg_ hnew_;(first | rw [← Ny134.out] at ho42 | (simp only [Int.reduceToNat] at ho42;rw [← Ny134.out] at ho42));have n0_ := Aside0.mk (Kd.R_below (by (with_reducible repeat (first | apply Kd.R_alloc | apply Kd.R_drewN | apply Kd.R_drew));exact HO_4.out) hb);have n1_ := Aside0.mk (Kd.R_elder' (by (with_reducible repeat (first | apply Kd.R_alloc | apply Kd.R_drewN | apply Kd.R_drew));exact HO_6.out) (Kd.R_base ho42) hb);have n2_ := Aside0.mk (Kd.R_below (by (with_reducible repeat (first | apply Kd.R_alloc | apply Kd.R_drewN | apply Kd.R_drew));exact HO_8.out) hb);have n3_ := Aside0.mk (Kd.R_lower (Kd.R_new' ho42 (Kd.R_lt (by (with_reducible repeat (first | apply Kd.R_alloc | apply Kd.R_drewN | apply Kd.R_drew));exact HO_6.out))) (below_size (by repeat (first | (with_reducible first | exact HB.out | apply below_alloc | apply pw_below_drewN | apply below_drew1) | exact HB.out))));have n4_ := Aside0.mk (below_step (by repeat (first | (with_reducible first | exact HB.out | apply below_alloc | apply pw_below_drewN | apply below_drew1) | exact HB.out)) hb);clear HO_4;clear HO_6;clear HO_8;clear HB;have HO_4 := n0_;have HO_6 := n1_;have HO_8 := n2_;have HO136 := n3_;have HB := n4_;clear n0_ n1_ n2_ n3_ n4_;clear hb ho42))
                go_ret2
                exact ⟨_,by first | rfl | (simp [errW_none,errW_some,IntKind.wrap_i64,wrap64];done) | (simp [errW_none,errW_some] <;> rfl) | (simp [*,errW_none,errW_some] <;> rfl),by (with_reducible repeat (first | apply Kd.R_alloc | apply Kd.R_drewN | apply Kd.R_drew));exact Kd.R_mono HO136.out (fun _ hk => trivial),by repeat (first | (with_reducible first | exact HB.out | apply below_alloc | apply pw_below_drewN | apply below_drew1) | exact HB.out)⟩
              ·replace c34 := Bool.eq_false_iff.mpr c34;subst c34
               have H1 : (some ((([] : List (S34))),5)) = some (r1,r2) := by rw [if_neg (show ¬ (false = true) by decide)] at H;exact H
               clear H;have H := H1;clear H1;obtain ⟨y137,hy137⟩ : ∃ y_ : List (S34),y_ = (([] : List (S34))) := ⟨_,rfl⟩
               replace H : (some (y137,5)) = some (r1,r2) := by first | (rw [hy137];with_reducible exact H) | (have H2_ := (Option.bind_some _ _).symm.trans H;rw [hy137];with_reducible exact H2_) | (have H2_ := (Option.bind_some _ _).symm.trans H;with_reducible exact H2_) | with_reducible exact H | (rw [hy137];exact H) | exact H
               have Ny137 := Aside0.mk hy137;clear hy137;simp only [Option.some.injEq,Prod.mk.injEq] at H;obtain ⟨rfl,rfl⟩ := H;obtain ⟨Ao43,co43,eo43⟩ := Kd.R_slice HO_8.out;subst eo43;have p124 : 0 ≤ (0 : Int) := (by omega);have q124 : 0 < (t116.length : Int) := of_decide_eq_true (by first | (with_reducible assumption) | assumption);obtain ⟨ad124,e124,hx124_0⟩ := Kd.at_string (Kd.R_reads' HO_8.out).2.2 0 p124 q124;cases e124;have qi124 : (0 < t116.length) = True := eq_true (by omega);(try rw [show ((0 : Int)).toNat = 0 from rfl] at hx124_0);(try rw [Addr.add_zero'] at hx124_0);replace p124 := eq_true p124;replace q124 := eq_true q124
               go_wp2_with (first | ((with_reducible refine gate_callee (f := 10) rfl ?_);refine goesL_ (some 59) rfl rfl Tryd.func10 (by kernel_rfl) rfl #[.string (rdOf ByteArray.empty t116 0)] rfl (by (try simp only [List.map_toArray,List.map_cons,List.map_nil]);first | done | rfl | (simp only [List.length_drop,List.length_take];rfl)) ?_;(with_reducible refine (spec_l01Number.calls kj18 (rdOf ByteArray.empty t116 0) t125 false _ A31.out).mono ?_);rintro e w' ⟨rfl,⟨nd,rfl⟩⟩;refine ⟨_,rfl,?_⟩;have p127 : 0 ≤ (2 : Int) := (by omega);have q127 : 2 < (t116.length : Int) := of_decide_eq_true (by first | (with_reducible assumption) | assumption);obtain ⟨ad127,e127,hx127_0⟩ := Kd.at_string (Kd.R_reads' HO_8.out).2.2 2 p127 q127;obtain rfl : ad124 = ad127 := (by injection e127);(try simp only [show (2 : Int).toNat = 2 from rfl,Nat.reduceMul,Nat.reduceEqDiff,Go.Addr.add,↓reduceIte] at hx127_0);have qi127 : (2 < t116.length) = True := eq_true (by omega);(try rw [show ((2 : Int)).toNat = 2 from rfl] at hx127_0);replace p127 := eq_true p127;replace q127 := eq_true q127) | ((with_reducible refine gate_callee (f := 10) rfl ?_);refine goesL_ (some 66) rfl rfl Tryd.func10 (by kernel_rfl) rfl #[.string (rdOf ByteArray.empty t116 2)] rfl (by (try simp only [List.map_toArray,List.map_cons,List.map_nil]);first | done | rfl | (simp only [List.length_drop,List.length_take];rfl)) ?_;(with_reducible refine (spec_l01Number.calls kj18 (rdOf ByteArray.empty t116 2) t128 t129 _ A33.out).mono ?_);rintro e w' ⟨rfl,⟨nd,rfl⟩⟩;refine ⟨_,rfl,?_⟩) | ((with_reducible refine gate_dst (N := 75) rfl ?_);refine Kd.R_lit k34 _ 34 ?hg (N := 75) ?hd (xs := ([] : List (S34))) (inner := []) (ok := fun _ => True) (okp := fun _ => True) ?hr ?hp (fun _ hk => hk) trivial (Below.refl _ _) (Nat.le_refl _) (by simp) ?_;(case hd => rfl);(case hg => rfl);(case hr => first | (go_simp;done) | (go_simp;rfl));(case hp => exact (Reps.none _ _));intro v138 w44 ho45 hb hg_ hnew_;clear hg_ hnew_;(first | rw [← Ny137.out] at ho45 | (simp only [Int.reduceToNat] at ho45;rw [← Ny137.out] at ho45));have n0_ := Aside0.mk (Kd.R_below (by (with_reducible repeat (first | apply Kd.R_alloc | apply Kd.R_drewN | apply Kd.R_drew));exact HO_4.out) hb);have n1_ := Aside0.mk (Kd.R_elder' (by (with_reducible repeat (first | apply Kd.R_alloc | apply Kd.R_drewN | apply Kd.R_drew));exact HO_6.out) (Kd.R_base ho45) hb);have n2_ := Aside0.mk (Kd.R_below (by (with_reducible repeat (first | apply Kd.R_alloc | apply Kd.R_drewN | apply Kd.R_drew));exact HO_8.out) hb);have n3_ := Aside0.mk (Kd.R_lower (Kd.R_new' ho45 (Kd.R_lt (by (with_reducible repeat (first | apply Kd.R_alloc | apply Kd.R_drewN | apply Kd.R_drew));exact HO_6.out))) (below_size (by repeat (first | (with_reducible first | exact HB.out | apply below_alloc | apply pw_below_drewN | apply below_drew1) | exact HB.out))));have n4_ := Aside0.mk (below_step (by repeat (first | (with_reducible first | exact HB.out | apply below_alloc | apply pw_below_drewN | apply below_drew1) | exact HB.out)) hb);clear HO_4;clear HO_6;clear HO_8;clear HB;have HO_4 := n0_;have HO_6 := n1_;have HO_8 := n2_;have HO139 := n3_;have HB := n4_;clear n0_ n1_ n2_ n3_ n4_;clear hb ho45))
               go_ret2
               exact ⟨_,by first | rfl | (simp [errW_none,errW_some,IntKind.wrap_i64,wrap64];done) | (simp [errW_none,errW_some] <;> rfl) | (simp [*,errW_none,errW_some] <;> rfl),by (with_reducible repeat (first | apply Kd.R_alloc | apply Kd.R_drewN | apply Kd.R_drew));exact Kd.R_mono HO139.out (fun _ hk => trivial),by repeat (first | (with_reducible first | exact HB.out | apply below_alloc | apply pw_below_drewN | apply below_drew1) | exact HB.out)⟩
             ·rw [if_neg c32] at H;exact absurd H (by simp)
            ·rw [if_neg c30] at H;exact absurd H (by simp)
        ·rw [if_neg c17] at H;exact absurd H (by simp)
       ·rw [if_neg c16] at H;exact absurd H (by simp)
      ·rw [if_neg c15] at H;have c15b0 : decide (x7_2 < (wrap64 ((t101.length : Int) - 1))) = false := decide_eq_false c15;clear c15;replace H := Option.bind_eq_some_iff.mp H;obtain ⟨t111,A460,H⟩ := H;replace H : (if t111 = true then (some (x6_2,0)) else (some ((([] : List (S34))),5))) = some (r1,r2) := H;have A46 := Aside0.mk A460;clear A460
       by_cases c47 : t111 = true
       ·subst c47
        have H1 : (some (x6_2,0)) = some (r1,r2) := by rw [if_pos rfl] at H;exact H
        clear H;have H := H1;clear H1;simp only [Option.some.injEq,Prod.mk.injEq] at H;obtain ⟨rfl,rfl⟩ := H;obtain ⟨Ao48,co48,eo48⟩ := Kd.R_slice HO_6.out;subst eo48
        go_wp2_with (first | ((with_reducible refine gate_callee (f := 11) rfl ?_);refine goesL_ (some 87) rfl rfl Tryd.func11 (by kernel_rfl) rfl #[.slice Ao48 x6_2.length co48] rfl (by (try simp only [List.map_toArray,List.map_cons,List.map_nil]);first | done | rfl | (simp only [List.length_drop,List.length_take];rfl)) ?_;(with_reducible refine (spec_l07Ok.calls k2 _ _ x6_2 true _ ?side1 ?side2 A46.out).mono ?_);(case side1 => repeat (first | exact (Kd.R_reads' HO_6.out).2.2 | (with_reducible refine Kd.C_alloc ?_ _) | (with_reducible refine Kd.C_drewN ?_ _) | (with_reducible refine Kd.C_drew ?_)));(case side2 => exact (Kd.R_reads' HO_6.out).2.1);rintro e w49 ⟨rfl,hb⟩;refine ⟨_,rfl,?_⟩;have n0_ := Aside0.mk (Kd.R_below (by (with_reducible repeat (first | apply Kd.R_alloc | apply Kd.R_drewN | apply Kd.R_drew));exact HO_4.out) hb);have n1_ := Aside0.mk (Kd.R_below (by (with_reducible repeat (first | apply Kd.R_alloc | apply Kd.R_drewN | apply Kd.R_drew));exact HO_6.out) hb);have n2_ := Aside0.mk (below_step (by repeat (first | (with_reducible first | exact HB.out | apply below_alloc | apply pw_below_drewN | apply below_drew1) | exact HB.out)) hb);clear HO_4;clear HO_6;clear HB;have HO_4 := n0_;have HO_6 := n1_;have HB := n2_;clear n0_ n1_ n2_;(try clear hb);(try clear hb2);(try clear hk);(try clear hi)))
        go_ret2
        exact ⟨_,by first | rfl | (simp [errW_none,errW_some,IntKind.wrap_i64,wrap64];done) | (simp [errW_none,errW_some] <;> rfl) | (simp [*,errW_none,errW_some] <;> rfl),by (with_reducible repeat (first | apply Kd.R_alloc | apply Kd.R_drewN | apply Kd.R_drew));exact HO_6.out,by repeat (first | (with_reducible first | exact HB.out | apply below_alloc | apply pw_below_drewN | apply below_drew1) | exact HB.out)⟩
       ·replace c47 := Bool.eq_false_iff.mpr c47;subst c47
        have H1 : (some ((([] : List (S34))),5)) = some (r1,r2) := by rw [if_neg (show ¬ (false = true) by decide)] at H;exact H
        clear H;have H := H1;clear H1;obtain ⟨y112,hy112⟩ : ∃ y_ : List (S34),y_ = (([] : List (S34))) := ⟨_,rfl⟩
        replace H : (some (y112,5)) = some (r1,r2) := by first | (rw [hy112];with_reducible exact H) | (have H2_ := (Option.bind_some _ _).symm.trans H;rw [hy112];with_reducible exact H2_) | (have H2_ := (Option.bind_some _ _).symm.trans H;with_reducible exact H2_) | with_reducible exact H | (rw [hy112];exact H) | exact H
        have Ny112 := Aside0.mk hy112;clear hy112;simp only [Option.some.injEq,Prod.mk.injEq] at H;obtain ⟨rfl,rfl⟩ := H;obtain ⟨Ao50,co50,eo50⟩ := Kd.R_slice HO_6.out;subst eo50
        go_wp2_with (first | ((with_reducible refine gate_callee (f := 11) rfl ?_);refine goesL_ (some 87) rfl rfl Tryd.func11 (by kernel_rfl) rfl #[.slice Ao50 x6_2.length co50] rfl (by (try simp only [List.map_toArray,List.map_cons,List.map_nil]);first | done | rfl | (simp only [List.length_drop,List.length_take];rfl)) ?_;(with_reducible refine (spec_l07Ok.calls k2 _ _ x6_2 false _ ?side1 ?side2 A46.out).mono ?_);(case side1 => repeat (first | exact (Kd.R_reads' HO_6.out).2.2 | (with_reducible refine Kd.C_alloc ?_ _) | (with_reducible refine Kd.C_drewN ?_ _) | (with_reducible refine Kd.C_drew ?_)));(case side2 => exact (Kd.R_reads' HO_6.out).2.1);rintro e w51 ⟨rfl,hb⟩;refine ⟨_,rfl,?_⟩;have n0_ := Aside0.mk (Kd.R_below (by (with_reducible repeat (first | apply Kd.R_alloc | apply Kd.R_drewN | apply Kd.R_drew));exact HO_4.out) hb);have n1_ := Aside0.mk (Kd.R_below (by (with_reducible repeat (first | apply Kd.R_alloc | apply Kd.R_drewN | apply Kd.R_drew));exact HO_6.out) hb);have n2_ := Aside0.mk (below_step (by repeat (first | (with_reducible first | exact HB.out | apply below_alloc | apply pw_below_drewN | apply below_drew1) | exact HB.out)) hb);clear HO_4;clear HO_6;clear HB;have HO_4 := n0_;have HO_6 := n1_;have HB := n2_;clear n0_ n1_ n2_;(try clear hb);(try clear hb2);(try clear hk);(try clear hi)) | ((with_reducible refine gate_dst (N := 89) rfl ?_);refine Kd.R_lit k34 _ 34 ?hg (N := 89) ?hd (xs := ([] : List (S34))) (inner := []) (ok := fun _ => True) (okp := fun _ => True) ?hr ?hp (fun _ hk => hk) trivial (Below.refl _ _) (Nat.le_refl _) (by simp) ?_;(case hd => rfl);(case hg => rfl);(case hr => first | (go_simp;done) | (go_simp;rfl));(case hp => exact (Reps.none _ _));intro v113 w52 ho53 hb hg_ hnew_;clear hg_ hnew_;(first | rw [← Ny112.out] at ho53 | (simp only [Int.reduceToNat] at ho53;rw [← Ny112.out] at ho53));have n0_ := Aside0.mk (Kd.R_below (by (with_reducible repeat (first | apply Kd.R_alloc | apply Kd.R_drewN | apply Kd.R_drew));exact HO_4.out) hb);have n1_ := Aside0.mk (Kd.R_elder' (by (with_reducible repeat (first | apply Kd.R_alloc | apply Kd.R_drewN | apply Kd.R_drew));exact HO_6.out) (Kd.R_base ho53) hb);have n2_ := Aside0.mk (Kd.R_lower (Kd.R_new' ho53 (Kd.R_lt (by (with_reducible repeat (first | apply Kd.R_alloc | apply Kd.R_drewN | apply Kd.R_drew));exact HO_6.out))) (below_size (by repeat (first | (with_reducible first | exact HB.out | apply below_alloc | apply pw_below_drewN | apply below_drew1) | exact HB.out))));have n3_ := Aside0.mk (below_step (by repeat (first | (with_reducible first | exact HB.out | apply below_alloc | apply pw_below_drewN | apply below_drew1) | exact HB.out)) hb);clear HO_4;clear HO_6;clear HB;have HO_4 := n0_;have HO_6 := n1_;have HO114 := n2_;have HB := n3_;clear n0_ n1_ n2_ n3_;clear hb ho53))
        go_ret2
        exact ⟨_,by first | rfl | (simp [errW_none,errW_some,IntKind.wrap_i64,wrap64];done) | (simp [errW_none,errW_some] <;> rfl) | (simp [*,errW_none,errW_some] <;> rfl),by (with_reducible repeat (first | apply Kd.R_alloc | apply Kd.R_drewN | apply Kd.R_drew));exact Kd.R_mono HO114.out (fun _ hk => trivial),by repeat (first | (with_reducible first | exact HB.out | apply below_alloc | apply pw_below_drewN | apply below_drew1) | exact HB.out)⟩
end Go.Proofs.YtmcfbnglocojkaaDoor.G
end

section
namespace Go.Proofs.YtmcfbnglocojkaaDoor.G
open Go.RowKit Go.Proofs.YtmcfbnglocojkaaDoorW.PrintWords Go.Proofs.YtmcfbnglocojkaaDoorW.PrintLast Go.Proofs.YtmcfbnglocojkaaDoorW.PrintMore
attribute [local go_sem] max2_int min2_int max_two min_two max_three min_three max_four min_four
set_option linter.unusedVariables false
set_option linter.unusedSimpArgs false
mutual
def laws_FnExactReadLog.j0 : Nat → ByteArray → List (S34) → Int → List (S34) → Bool → Option (Bool)
 | 0,_,_,_,_,_ => none
 | k + 1,x0,x3,x4,x5,x32 => if x32 = true then (some false) else ((laws_markLog.f k x5 1).bind fun bt110 => ((laws_heldLog.f k bt110.2 1).bind fun t112 => (if t112 < 0 then (some false) else (if t112 = bt110.1 then ((impl_ReadLog.f x0).bind fun bt113 => ((laws_eqLog.f k bt113.1 x3).bind fun t117 => (if t117 = true then (laws_FnExactReadLog.j1 k bt110.2 bt110.1 (bt113.2 != x4)) else (laws_FnExactReadLog.j1 k bt110.2 bt110.1 true)))) else (some false)))))
def laws_FnExactReadLog.j1 : Nat → List (S34) → Int → Bool → Option (Bool)
 | 0,_,_,_ => none
 | k + 1,x5,x7,x57 => if x57 = true then (some false) else ((laws_heldLog.f k x5 1).bind fun t118 => (if t118 < 0 then (some false) else (if t118 = x7 then (some true) else (some false))))
end
def laws_FnExactReadLog.f (k : Nat) (a0 : ByteArray) : Option (Bool) := if (a0.size : Int) > 1048576 then (some true) else ((spec_ReadLog.f k a0).bind fun bt101 => ((impl_ReadLog.f a0).bind fun bt105 => ((laws_eqLog.f k bt105.1 bt101.1).bind fun t109 => (if t109 = true then (laws_FnExactReadLog.j0 k a0 bt101.1 bt101.2 bt105.1 (bt105.2 != bt101.2)) else (laws_FnExactReadLog.j0 k a0 bt101.1 bt101.2 bt105.1 true)))))
set_option maxHeartbeats 8000000 in
set_option maxRecDepth 100000 in
theorem laws_FnExactReadLog.calls (k : Nat) (a0 : ByteArray) (r : Bool) (w : World) (henv : Env w) (h : laws_FnExactReadLog.f k a0 = some r) :
  Calls Tryd.prog 3 #[.string a0] w fun e w' => e = .returned (.bool r) ∧ Below w.heap.size w w' := by
 have HENV := Aside0.mk henv;clear henv;have HB := Aside0.mk (Below.refl w.heap.size w);have H : (if (a0.size : Int) > 1048576 then (some true) else ((spec_ReadLog.f k a0).bind fun bt101 => ((impl_ReadLog.f a0).bind fun bt105 => ((laws_eqLog.f k bt105.1 bt101.1).bind fun t109 => (if t109 = true then (laws_FnExactReadLog.j0 k a0 bt101.1 bt101.2 bt105.1 (bt105.2 != bt101.2)) else (laws_FnExactReadLog.j0 k a0 bt101.1 bt101.2 bt105.1 true)))))) = some r := h;clear h
 by_cases c2 : (a0.size : Int) > 1048576
 ·rw [if_pos c2] at H;have c2b0 : decide (1048576 < (a0.size : Int)) = true := decide_eq_true c2;have c2b1 : decide (1048576 < a0.size) = true := decide_eq_true (by omega);clear c2;obtain rfl := Option.some.inj H
  go_enter Tryd.func3,Tryd.ntmps3
  go_wp2
  go_ret
  exact ⟨by first | rfl | (simp [errW_none,errW_some,IntKind.wrap_i64,wrap64];done) | (simp [errW_none,errW_some] <;> rfl) | (simp [*,errW_none,errW_some] <;> rfl),by repeat (first | (with_reducible first | exact HB.out | apply below_alloc | apply pw_below_drewN | apply below_drew1) | exact HB.out)⟩
 ·rw [if_neg c2] at H;have c2b0 : decide (1048576 < (a0.size : Int)) = false := decide_eq_false c2;have c2b1 : decide (1048576 < a0.size) = false := decide_eq_false (by omega);clear c2;replace H := Option.bind_eq_some_iff.mp H;obtain ⟨⟨t101,t102⟩,A30,H⟩ := H;replace H : ((impl_ReadLog.f a0).bind fun bt105 => ((laws_eqLog.f k bt105.1 t101).bind fun t109 => (if t109 = true then (laws_FnExactReadLog.j0 k a0 t101 t102 bt105.1 (bt105.2 != t102)) else (laws_FnExactReadLog.j0 k a0 t101 t102 bt105.1 true)))) = some r := H;have A3 := Aside0.mk A30;clear A30;replace H := Option.bind_eq_some_iff.mp H;obtain ⟨⟨t105,t106⟩,A40,H⟩ := H;replace H : ((laws_eqLog.f k t105 t101).bind fun t109 => (if t109 = true then (laws_FnExactReadLog.j0 k a0 t101 t102 t105 (t106 != t102)) else (laws_FnExactReadLog.j0 k a0 t101 t102 t105 true))) = some r := H;have A4 := Aside0.mk A40;clear A40;have HC5 := Aside0.mk H;clear H
  go_enter Tryd.func3,Tryd.ntmps3
  go_upto_region 5 with (first | ((with_reducible refine gate_callee (f := 4) rfl ?_);refine goesL_ (some 16) rfl rfl Tryd.func4 (by kernel_rfl) rfl #[.string a0] rfl (by (try simp only [List.map_toArray,List.map_cons,List.map_nil]);first | done | rfl | (simp only [List.length_drop,List.length_take];rfl)) ?_;(with_reducible refine (spec_ReadLog.calls k a0 t101 t102 _ A3.out).mono ?_);rintro e w6 ⟨v103,rfl,ho0,hb⟩;refine ⟨_,rfl,?_⟩;have n0_ := Aside0.mk (Kd.R_lower ho0 (below_size (by repeat (first | (with_reducible first | exact HB.out | apply below_alloc | apply pw_below_drewN | apply below_drew1) | exact HB.out))));have n1_ := Aside0.mk (below_step (by repeat (first | (with_reducible first | exact HB.out | apply below_alloc | apply pw_below_drewN | apply below_drew1) | exact HB.out)) hb);clear HB;have HO104 := n0_;have HB := n1_;clear n0_ n1_;(try clear hb);(try clear hb2);(try clear hk);(try clear hi);(try clear ho0)) | ((with_reducible refine gate_callee (f := 5) rfl ?_);refine goesL_ (some 21) rfl rfl Tryd.func5 (by kernel_rfl) rfl #[.string a0] rfl (by (try simp only [List.map_toArray,List.map_cons,List.map_nil]);first | done | rfl | (simp only [List.length_drop,List.length_take];rfl)) ?_;(with_reducible refine (impl_ReadLog.calls a0 t105 t106 _ ?side1 A4.out).mono ?_);(case side1 => exact Env_on HENV.out (by repeat (first | (with_reducible first | exact HB.out | apply below_alloc | apply pw_below_drewN | apply below_drew1) | exact HB.out)));rintro e w7 ⟨v107,rfl,ho0,hb⟩;refine ⟨_,rfl,?_⟩;have n0_ := Aside0.mk (Kd.R_elder' (by (with_reducible repeat (first | apply Kd.R_alloc | apply Kd.R_drewN | apply Kd.R_drew));exact HO104.out) (Kd.R_base ho0) hb);have n1_ := Aside0.mk (Kd.R_lower (Kd.R_new' ho0 (Kd.R_lt (by (with_reducible repeat (first | apply Kd.R_alloc | apply Kd.R_drewN | apply Kd.R_drew));exact HO104.out))) (below_size (by repeat (first | (with_reducible first | exact HB.out | apply below_alloc | apply pw_below_drewN | apply below_drew1) | exact HB.out))));have n2_ := Aside0.mk (below_step (by repeat (first | (with_reducible first | exact HB.out | apply below_alloc | apply pw_below_drewN | apply below_drew1) | exact HB.out)) hb);clear HO104;clear HB;have HO104 := n0_;have HO108 := n1_;have HB := n2_;clear n0_ n1_ n2_;(try clear hb);(try clear hb2);(try clear hk);(try clear hi);(try clear ho0)))
  (try simp only [Act.put,List.setIfInBounds_toArray,List.set_cons_zero,List.set_cons_succ])
  go_cut [32] (fun v32 wc => ∃ (kq : Nat) (x32_4 : Bool),v32 = .bool x32_4 ∧ Aside0 (laws_FnExactReadLog.j0 kq a0 t101 t102 t105 x32_4 = some r) ∧ Aside0 (kq ≤ k) ∧ Aside0 (Kd.R k34 34 wc w.heap.size (fun k_ => some k_ ≠ (v107 : Value).ownBlock) v103 t101) ∧ Aside0 (Kd.R k34 34 wc w.heap.size (fun k_ => some k_ ≠ (v103 : Value).ownBlock) v107 t105) ∧ Aside0 (Below w.heap.size w wc))
  case first =>
   have H := HC5.out;clear HC5;replace H := Option.bind_eq_some_iff.mp H;obtain ⟨t109,A80,H⟩ := H;replace H : (if t109 = true then (laws_FnExactReadLog.j0 k a0 t101 t102 t105 (t106 != t102)) else (laws_FnExactReadLog.j0 k a0 t101 t102 t105 true)) = some r := H;have A8 := Aside0.mk A80;clear A80
   by_cases c9 : t109 = true
   ·subst c9
    have H1 : (laws_FnExactReadLog.j0 k a0 t101 t102 t105 (t106 != t102)) = some r := by rw [if_pos rfl] at H;exact H
    clear H;have H := H1;clear H1;have H' := Aside0.mk H;clear H;obtain ⟨Ao10,co10,eo10⟩ := Kd.R_slice HO108.out;subst eo10;obtain ⟨Ao11,co11,eo11⟩ := Kd.R_slice HO104.out;subst eo11
    go_wp2_with (first | ((with_reducible refine gate_callee (f := 6) rfl ?_);refine goesL_ (some 26) rfl rfl Tryd.func6 (by kernel_rfl) rfl #[.slice Ao10 t105.length co10,.slice Ao11 t101.length co11] rfl (by (try simp only [List.map_toArray,List.map_cons,List.map_nil]);first | done | rfl | (simp only [List.length_drop,List.length_take];rfl)) ?_;(with_reducible refine (laws_eqLog.calls k _ _ t105 _ _ t101 true _ ?side1 ?side2 ?side3 ?side4 A8.out).mono ?_);(case side1 => repeat (first | exact (Kd.R_reads' HO108.out).2.2 | (with_reducible refine Kd.C_alloc ?_ _) | (with_reducible refine Kd.C_drewN ?_ _) | (with_reducible refine Kd.C_drew ?_)));(case side2 => exact (Kd.R_reads' HO108.out).2.1);(case side3 => repeat (first | exact (Kd.R_reads' HO104.out).2.2 | (with_reducible refine Kd.C_alloc ?_ _) | (with_reducible refine Kd.C_drewN ?_ _) | (with_reducible refine Kd.C_drew ?_)));(case side4 => exact (Kd.R_reads' HO104.out).2.1);rintro e w12 ⟨rfl,hb⟩;refine ⟨_,rfl,?_⟩;have n0_ := Aside0.mk (Kd.R_below (by (with_reducible repeat (first | apply Kd.R_alloc | apply Kd.R_drewN | apply Kd.R_drew));exact HO104.out) hb);have n1_ := Aside0.mk (Kd.R_below (by (with_reducible repeat (first | apply Kd.R_alloc | apply Kd.R_drewN | apply Kd.R_drew));exact HO108.out) hb);have n2_ := Aside0.mk (below_step (by repeat (first | (with_reducible first | exact HB.out | apply below_alloc | apply pw_below_drewN | apply below_drew1) | exact HB.out)) hb);clear HO104;clear HO108;clear HB;have HO104 := n0_;have HO108 := n1_;have HB := n2_;clear n0_ n1_ n2_;(try clear hb);(try clear hb2);(try clear hk);(try clear hi)))
    go_meet
    case rel => exact ⟨_,((t106 != t102)),(by first | rfl | (simp only [IntKind.wrap_i64,wrap64];done) | (simp;done) | (simp [*];done)),H',⟨by first | omega | exact Nat.le_refl _⟩,⟨by (with_reducible repeat (first | apply Kd.R_alloc | apply Kd.R_drewN | apply Kd.R_drew));exact Kd.R_mono HO104.out (fun _ hk => hk.2)⟩,⟨by (with_reducible repeat (first | apply Kd.R_alloc | apply Kd.R_drewN | apply Kd.R_drew));exact Kd.R_mono HO108.out (fun _ hk => hk.2)⟩,⟨by repeat (first | (with_reducible first | exact HB.out | apply below_alloc | apply pw_below_drewN | apply below_drew1) | exact HB.out)⟩⟩
   ·replace c9 := Bool.eq_false_iff.mpr c9;subst c9
    have H1 : (laws_FnExactReadLog.j0 k a0 t101 t102 t105 true) = some r := by rw [if_neg (show ¬ (false = true) by decide)] at H;exact H
    clear H;have H := H1;clear H1;have H' := Aside0.mk H;clear H;obtain ⟨Ao13,co13,eo13⟩ := Kd.R_slice HO108.out;subst eo13;obtain ⟨Ao14,co14,eo14⟩ := Kd.R_slice HO104.out;subst eo14
    go_wp2_with (first | ((with_reducible refine gate_callee (f := 6) rfl ?_);refine goesL_ (some 26) rfl rfl Tryd.func6 (by kernel_rfl) rfl #[.slice Ao13 t105.length co13,.slice Ao14 t101.length co14] rfl (by (try simp only [List.map_toArray,List.map_cons,List.map_nil]);first | done | rfl | (simp only [List.length_drop,List.length_take];rfl)) ?_;(with_reducible refine (laws_eqLog.calls k _ _ t105 _ _ t101 false _ ?side1 ?side2 ?side3 ?side4 A8.out).mono ?_);(case side1 => repeat (first | exact (Kd.R_reads' HO108.out).2.2 | (with_reducible refine Kd.C_alloc ?_ _) | (with_reducible refine Kd.C_drewN ?_ _) | (with_reducible refine Kd.C_drew ?_)));(case side2 => exact (Kd.R_reads' HO108.out).2.1);(case side3 => repeat (first | exact (Kd.R_reads' HO104.out).2.2 | (with_reducible refine Kd.C_alloc ?_ _) | (with_reducible refine Kd.C_drewN ?_ _) | (with_reducible refine Kd.C_drew ?_)));(case side4 => exact (Kd.R_reads' HO104.out).2.1);rintro e w15 ⟨rfl,hb⟩;refine ⟨_,rfl,?_⟩;have n0_ := Aside0.mk (Kd.R_below (by (with_reducible repeat (first | apply Kd.R_alloc | apply Kd.R_drewN | apply Kd.R_drew));exact HO104.out) hb);have n1_ := Aside0.mk (Kd.R_below (by (with_reducible repeat (first | apply Kd.R_alloc | apply Kd.R_drewN | apply Kd.R_drew));exact HO108.out) hb);have n2_ := Aside0.mk (below_step (by repeat (first | (with_reducible first | exact HB.out | apply below_alloc | apply pw_below_drewN | apply below_drew1) | exact HB.out)) hb);clear HO104;clear HO108;clear HB;have HO104 := n0_;have HO108 := n1_;have HB := n2_;clear n0_ n1_ n2_;(try clear hb);(try clear hb2);(try clear hk);(try clear hi)))
    go_meet
    case rel => exact ⟨_,(true),(by first | rfl | (simp only [IntKind.wrap_i64,wrap64];done) | (simp;done) | (simp [*];done)),H',⟨by first | omega | exact Nat.le_refl _⟩,⟨by (with_reducible repeat (first | apply Kd.R_alloc | apply Kd.R_drewN | apply Kd.R_drew));exact Kd.R_mono HO104.out (fun _ hk => hk.2)⟩,⟨by (with_reducible repeat (first | apply Kd.R_alloc | apply Kd.R_drewN | apply Kd.R_drew));exact Kd.R_mono HO108.out (fun _ hk => hk.2)⟩,⟨by repeat (first | (with_reducible first | exact HB.out | apply below_alloc | apply pw_below_drewN | apply below_drew1) | exact HB.out)⟩⟩
  case rest =>
   clear HC5;(try clear c2);(try clear c2b0);(try clear c2b1);(try clear p2);(try clear c3);(try clear c4);(try clear c5);(try clear c6);(try clear c9);obtain ⟨kq,x32_4,rfl,HA,HJ4,HO_3,HO_5,HB⟩ := hcut
   cases kq with
   | zero => exact absurd HA.out (by simp [laws_FnExactReadLog.j0])
   | succ kj4 =>
    have H := HA.out;clear HA;simp only [laws_FnExactReadLog.j0] at H
    by_cases c16 : x32_4 = true
    ·subst c16
     have H1 : (some false) = some r := by rw [if_pos rfl] at H;exact H
     clear H;have H := H1;clear H1;obtain rfl := Option.some.inj H
     go_wp2
     go_ret
     exact ⟨by first | rfl | (simp [errW_none,errW_some,IntKind.wrap_i64,wrap64];done) | (simp [errW_none,errW_some] <;> rfl) | (simp [*,errW_none,errW_some] <;> rfl),by repeat (first | (with_reducible first | exact HB.out | apply below_alloc | apply pw_below_drewN | apply below_drew1) | exact HB.out)⟩
    ·replace c16 := Bool.eq_false_iff.mpr c16;subst c16
     have H1 : ((laws_markLog.f kj4 t105 1).bind fun bt110 => ((laws_heldLog.f kj4 bt110.2 1).bind fun t112 => (if t112 < 0 then (some false) else (if t112 = bt110.1 then ((impl_ReadLog.f a0).bind fun bt113 => ((laws_eqLog.f kj4 bt113.1 t101).bind fun t117 => (if t117 = true then (laws_FnExactReadLog.j1 kj4 bt110.2 bt110.1 (bt113.2 != t102)) else (laws_FnExactReadLog.j1 kj4 bt110.2 bt110.1 true)))) else (some false))))) = some r := by rw [if_neg (show ¬ (false = true) by decide)] at H;exact H
     clear H;have H := H1;clear H1;replace H := Option.bind_eq_some_iff.mp H;obtain ⟨⟨t110,t111⟩,A170,H⟩ := H;replace H : ((laws_heldLog.f kj4 t111 1).bind fun t112 => (if t112 < 0 then (some false) else (if t112 = t110 then ((impl_ReadLog.f a0).bind fun bt113 => ((laws_eqLog.f kj4 bt113.1 t101).bind fun t117 => (if t117 = true then (laws_FnExactReadLog.j1 kj4 t111 t110 (bt113.2 != t102)) else (laws_FnExactReadLog.j1 kj4 t111 t110 true)))) else (some false)))) = some r := H;have A17 := Aside0.mk A170;clear A170;replace H := Option.bind_eq_some_iff.mp H;obtain ⟨t112,A180,H⟩ := H;replace H : (if t112 < 0 then (some false) else (if t112 = t110 then ((impl_ReadLog.f a0).bind fun bt113 => ((laws_eqLog.f kj4 bt113.1 t101).bind fun t117 => (if t117 = true then (laws_FnExactReadLog.j1 kj4 t111 t110 (bt113.2 != t102)) else (laws_FnExactReadLog.j1 kj4 t111 t110 true)))) else (some false))) = some r := H;have A18 := Aside0.mk A180;clear A180
     by_cases c19 : t112 < 0
     ·rw [if_pos c19] at H;have c19b0 : decide (t112 < 0) = true := decide_eq_true c19;clear c19;obtain rfl := Option.some.inj H;obtain ⟨Ao20,co20,eo20⟩ := Kd.R_slice HO_5.out;subst eo20
      go_wp2_with (first | ((with_reducible refine gate_callee (f := 7) rfl ?_);refine goesL_ (some 35) rfl rfl Tryd.func7 (by kernel_rfl) rfl #[.slice Ao20 t105.length co20,.int .i64 1] rfl (by (try simp only [List.map_toArray,List.map_cons,List.map_nil]);first | done | rfl | (simp only [List.length_drop,List.length_take];rfl)) ?_;(with_reducible refine (laws_markLog.calls kj4 (fun k_ => some k_ = (.slice Ao20 t105.length co20 : Value).ownBlock) (.slice Ao20 t105.length co20) t105 1 t110 t111 w _ ?side1 ?side2 A17.out).mono ?_);(case side1 => repeat (first | (with_reducible first | exact HB.out | apply below_alloc | apply pw_below_drewN | apply below_drew1) | exact HB.out));(case side2 => exact Kd.R_tight rfl HO_5.out);rintro e w21 ⟨rfl,hy0,hb,hkp⟩;refine ⟨_,rfl,?_⟩;have n0_ := Aside0.mk (Kd.R_mono (ok' := fun k_ => some k_ ≠ (.slice Ao20 t105.length co20 : Value).ownBlock) (Kd.R_keptB (HO_3.out) hkp (fun k_ hk_ hs_ => (hk_) hs_)) (fun k_ hk_ => hk_.1));have n1_ := Aside0.mk (Kd.R_reok rfl hy0 (fun k_ e_ => HO_5.out.1 k_ e_));have n2_ := Aside0.mk (hb);clear HO_3;clear HO_5;clear HB;have HO_3 := n0_;have HO_5 := n1_;have HB := n2_;clear n0_ n1_ n2_;(try clear hb);(try clear hkp);(try clear hy0)) | ((with_reducible refine gate_callee (f := 8) rfl ?_);refine goesL_ (some 38) rfl rfl Tryd.func8 (by kernel_rfl) rfl #[.slice Ao20 t111.length co20,.int .i64 1] rfl (by (try simp only [List.map_toArray,List.map_cons,List.map_nil]);first | done | (rw [show t111.length = t105.length from (Kd.R_reads' HO_5.out).1.symm] <;> rfl) | rfl | (simp only [List.length_drop,List.length_take];rfl)) ?_;(with_reducible refine (laws_heldLog.calls kj4 _ _ t111 1 t112 _ ?side1 ?side2 A18.out).mono ?_);(case side1 => repeat (first | exact (Kd.R_reads' HO_5.out).2.2 | (with_reducible refine Kd.C_alloc ?_ _) | (with_reducible refine Kd.C_drewN ?_ _) | (with_reducible refine Kd.C_drew ?_)));(case side2 => rw [show t111.length = t105.length from (Kd.R_reads' HO_5.out).1.symm];exact (Kd.R_reads' HO_5.out).2.1);rintro e w' ⟨rfl,⟨nd,rfl⟩⟩;refine ⟨_,rfl,?_⟩))
      go_ret
      exact ⟨by first | rfl | (simp [errW_none,errW_some,IntKind.wrap_i64,wrap64];done) | (simp [errW_none,errW_some] <;> rfl) | (simp [*,errW_none,errW_some] <;> rfl),by repeat (first | (with_reducible first | exact HB.out | apply below_alloc | apply pw_below_drewN | apply below_drew1) | exact HB.out)⟩
     ·rw [if_neg c19] at H;have c19b0 : decide (t112 < 0) = false := decide_eq_false c19;clear c19
      by_cases c22 : t112 = t110
      ·rw [if_pos c22] at H;have c22b0 : (t112 == t110) = true := beq_iff_eq.mpr c22;have c22b1 : (t112 != t110) = false := bne_eq_false_iff_eq.mpr c22;clear c22;replace H := Option.bind_eq_some_iff.mp H;obtain ⟨⟨t113,t114⟩,A230,H⟩ := H;replace H : ((laws_eqLog.f kj4 t113 t101).bind fun t117 => (if t117 = true then (laws_FnExactReadLog.j1 kj4 t111 t110 (t114 != t102)) else (laws_FnExactReadLog.j1 kj4 t111 t110 true))) = some r := H;have A23 := Aside0.mk A230;clear A230;have HC24 := Aside0.mk H;clear H;obtain ⟨Ao25,co25,eo25⟩ := Kd.R_slice HO_5.out;subst eo25
       go_upto_region 16 with (first | ((with_reducible refine gate_callee (f := 7) rfl ?_);refine goesL_ (some 35) rfl rfl Tryd.func7 (by kernel_rfl) rfl #[.slice Ao25 t105.length co25,.int .i64 1] rfl (by (try simp only [List.map_toArray,List.map_cons,List.map_nil]);first | done | rfl | (simp only [List.length_drop,List.length_take];rfl)) ?_;(with_reducible refine (laws_markLog.calls kj4 (fun k_ => some k_ = (.slice Ao25 t105.length co25 : Value).ownBlock) (.slice Ao25 t105.length co25) t105 1 t110 t111 w _ ?side1 ?side2 A17.out).mono ?_);(case side1 => repeat (first | (with_reducible first | exact HB.out | apply below_alloc | apply pw_below_drewN | apply below_drew1) | exact HB.out));(case side2 => exact Kd.R_tight rfl HO_5.out);rintro e w26 ⟨rfl,hy0,hb,hkp⟩;refine ⟨_,rfl,?_⟩;have n0_ := Aside0.mk (Kd.R_mono (ok' := fun k_ => some k_ ≠ (.slice Ao25 t105.length co25 : Value).ownBlock) (Kd.R_keptB (HO_3.out) hkp (fun k_ hk_ hs_ => (hk_) hs_)) (fun k_ hk_ => hk_.1));have n1_ := Aside0.mk (Kd.R_reok rfl hy0 (fun k_ e_ => HO_5.out.1 k_ e_));have n2_ := Aside0.mk (hb);clear HO_3;clear HO_5;clear HB;have HO_3 := n0_;have HO_5 := n1_;have HB := n2_;clear n0_ n1_ n2_;(try clear hb);(try clear hkp);(try clear hy0)) | ((with_reducible refine gate_callee (f := 8) rfl ?_);refine goesL_ (some 38) rfl rfl Tryd.func8 (by kernel_rfl) rfl #[.slice Ao25 t111.length co25,.int .i64 1] rfl (by (try simp only [List.map_toArray,List.map_cons,List.map_nil]);first | done | (rw [show t111.length = t105.length from (Kd.R_reads' HO_5.out).1.symm] <;> rfl) | rfl | (simp only [List.length_drop,List.length_take];rfl)) ?_;(with_reducible refine (laws_heldLog.calls kj4 _ _ t111 1 t112 _ ?side1 ?side2 A18.out).mono ?_);(case side1 => repeat (first | exact (Kd.R_reads' HO_5.out).2.2 | (with_reducible refine Kd.C_alloc ?_ _) | (with_reducible refine Kd.C_drewN ?_ _) | (with_reducible refine Kd.C_drew ?_)));(case side2 => rw [show t111.length = t105.length from (Kd.R_reads' HO_5.out).1.symm];exact (Kd.R_reads' HO_5.out).2.1);rintro e w' ⟨rfl,⟨nd,rfl⟩⟩;refine ⟨_,rfl,?_⟩) | ((with_reducible refine gate_callee (f := 5) rfl ?_);refine goesL_ (some 46) rfl rfl Tryd.func5 (by kernel_rfl) rfl #[.string a0] rfl (by (try simp only [List.map_toArray,List.map_cons,List.map_nil]);first | done | rfl | (simp only [List.length_drop,List.length_take];rfl)) ?_;(with_reducible refine (impl_ReadLog.calls a0 t113 t114 _ ?side1 A23.out).mono ?_);(case side1 => exact Env_on HENV.out (by repeat (first | (with_reducible first | exact HB.out | apply below_alloc | apply pw_below_drewN | apply below_drew1) | exact HB.out)));rintro e w27 ⟨v115,rfl,ho0,hb⟩;refine ⟨_,rfl,?_⟩;have n0_ := Aside0.mk (Kd.R_elder' (by (with_reducible repeat (first | apply Kd.R_alloc | apply Kd.R_drewN | apply Kd.R_drew));exact HO_3.out) (Kd.R_base ho0) hb);have n1_ := Aside0.mk (Kd.R_elder' (by (with_reducible repeat (first | apply Kd.R_alloc | apply Kd.R_drewN | apply Kd.R_drew));exact HO_5.out) (Kd.R_base ho0) hb);have n2_ := Aside0.mk (Kd.R_lower (Kd.R_new' (Kd.R_new' ho0 (Kd.R_lt (by (with_reducible repeat (first | apply Kd.R_alloc | apply Kd.R_drewN | apply Kd.R_drew));exact HO_3.out))) (Kd.R_lt (by (with_reducible repeat (first | apply Kd.R_alloc | apply Kd.R_drewN | apply Kd.R_drew));exact HO_5.out))) (below_size (by repeat (first | (with_reducible first | exact HB.out | apply below_alloc | apply pw_below_drewN | apply below_drew1) | exact HB.out))));have n3_ := Aside0.mk (below_step (by repeat (first | (with_reducible first | exact HB.out | apply below_alloc | apply pw_below_drewN | apply below_drew1) | exact HB.out)) hb);clear HO_3;clear HO_5;clear HB;have HO_3 := n0_;have HO_5 := n1_;have HO116 := n2_;have HB := n3_;clear n0_ n1_ n2_ n3_;(try clear hb);(try clear hb2);(try clear hk);(try clear hi);(try clear ho0)))
       (try simp only [Act.put,List.setIfInBounds_toArray,List.set_cons_zero,List.set_cons_succ])
       go_cut [57] (fun v57 wc => ∃ (kq : Nat) (x57_23 : Bool),v57 = .bool x57_23 ∧ Aside0 (laws_FnExactReadLog.j1 kq t111 t110 x57_23 = some r) ∧ Aside0 (kq ≤ kj4) ∧ Aside0 (Kd.R k34 34 wc w.heap.size (fun _ => True) (.slice Ao25 t105.length co25) t111) ∧ Aside0 (Below w.heap.size w wc))
       case first =>
        have H := HC24.out;clear HC24;replace H := Option.bind_eq_some_iff.mp H;obtain ⟨t117,A280,H⟩ := H;replace H : (if t117 = true then (laws_FnExactReadLog.j1 kj4 t111 t110 (t114 != t102)) else (laws_FnExactReadLog.j1 kj4 t111 t110 true)) = some r := H;have A28 := Aside0.mk A280;clear A280
        by_cases c29 : t117 = true
        ·subst c29
         have H1 : (laws_FnExactReadLog.j1 kj4 t111 t110 (t114 != t102)) = some r := by rw [if_pos rfl] at H;exact H
         clear H;have H := H1;clear H1;have H' := Aside0.mk H;clear H;obtain ⟨Ao30,co30,eo30⟩ := Kd.R_slice HO116.out;subst eo30;obtain ⟨Ao31,co31,eo31⟩ := Kd.R_slice HO_3.out;subst eo31
         go_wp2_with (first | ((with_reducible refine gate_callee (f := 6) rfl ?_);refine goesL_ (some 51) rfl rfl Tryd.func6 (by kernel_rfl) rfl #[.slice Ao30 t113.length co30,.slice Ao31 t101.length co31] rfl (by (try simp only [List.map_toArray,List.map_cons,List.map_nil]);first | done | rfl | (simp only [List.length_drop,List.length_take];rfl)) ?_;(with_reducible refine (laws_eqLog.calls kj4 _ _ t113 _ _ t101 true _ ?side1 ?side2 ?side3 ?side4 A28.out).mono ?_);(case side1 => repeat (first | exact (Kd.R_reads' HO116.out).2.2 | (with_reducible refine Kd.C_alloc ?_ _) | (with_reducible refine Kd.C_drewN ?_ _) | (with_reducible refine Kd.C_drew ?_)));(case side2 => exact (Kd.R_reads' HO116.out).2.1);(case side3 => repeat (first | exact (Kd.R_reads' HO_3.out).2.2 | (with_reducible refine Kd.C_alloc ?_ _) | (with_reducible refine Kd.C_drewN ?_ _) | (with_reducible refine Kd.C_drew ?_)));(case side4 => exact (Kd.R_reads' HO_3.out).2.1);rintro e w32 ⟨rfl,hb⟩;refine ⟨_,rfl,?_⟩;have n0_ := Aside0.mk (Kd.R_below (by (with_reducible repeat (first | apply Kd.R_alloc | apply Kd.R_drewN | apply Kd.R_drew));exact HO_3.out) hb);have n1_ := Aside0.mk (Kd.R_below (by (with_reducible repeat (first | apply Kd.R_alloc | apply Kd.R_drewN | apply Kd.R_drew));exact HO_5.out) hb);have n2_ := Aside0.mk (Kd.R_below (by (with_reducible repeat (first | apply Kd.R_alloc | apply Kd.R_drewN | apply Kd.R_drew));exact HO116.out) hb);have n3_ := Aside0.mk (below_step (by repeat (first | (with_reducible first | exact HB.out | apply below_alloc | apply pw_below_drewN | apply below_drew1) | exact HB.out)) hb);clear HO_3;clear HO_5;clear HO116;clear HB;have HO_3 := n0_;have HO_5 := n1_;have HO116 := n2_;have HB := n3_;clear n0_ n1_ n2_ n3_;(try clear hb);(try clear hb2);(try clear hk);(try clear hi)))
         go_meet
         case rel => exact ⟨_,((t114 != t102)),(by first | rfl | (simp only [IntKind.wrap_i64,wrap64];done) | (simp;done) | (simp [*];done)),H',⟨by have := HJ4.out;first | omega | exact Nat.le_refl _⟩,⟨by (with_reducible repeat (first | apply Kd.R_alloc | apply Kd.R_drewN | apply Kd.R_drew));exact Kd.R_mono HO_5.out (fun _ hk => trivial)⟩,⟨by repeat (first | (with_reducible first | exact HB.out | apply below_alloc | apply pw_below_drewN | apply below_drew1) | exact HB.out)⟩⟩
        ·replace c29 := Bool.eq_false_iff.mpr c29;subst c29
         have H1 : (laws_FnExactReadLog.j1 kj4 t111 t110 true) = some r := by rw [if_neg (show ¬ (false = true) by decide)] at H;exact H
         clear H;have H := H1;clear H1;have H' := Aside0.mk H;clear H;obtain ⟨Ao33,co33,eo33⟩ := Kd.R_slice HO116.out;subst eo33;obtain ⟨Ao34,co34,eo34⟩ := Kd.R_slice HO_3.out;subst eo34
         go_wp2_with (first | ((with_reducible refine gate_callee (f := 6) rfl ?_);refine goesL_ (some 51) rfl rfl Tryd.func6 (by kernel_rfl) rfl #[.slice Ao33 t113.length co33,.slice Ao34 t101.length co34] rfl (by (try simp only [List.map_toArray,List.map_cons,List.map_nil]);first | done | rfl | (simp only [List.length_drop,List.length_take];rfl)) ?_;(with_reducible refine (laws_eqLog.calls kj4 _ _ t113 _ _ t101 false _ ?side1 ?side2 ?side3 ?side4 A28.out).mono ?_);(case side1 => repeat (first | exact (Kd.R_reads' HO116.out).2.2 | (with_reducible refine Kd.C_alloc ?_ _) | (with_reducible refine Kd.C_drewN ?_ _) | (with_reducible refine Kd.C_drew ?_)));(case side2 => exact (Kd.R_reads' HO116.out).2.1);(case side3 => repeat (first | exact (Kd.R_reads' HO_3.out).2.2 | (with_reducible refine Kd.C_alloc ?_ _) | (with_reducible refine Kd.C_drewN ?_ _) | (with_reducible refine Kd.C_drew ?_)));(case side4 => exact (Kd.R_reads' HO_3.out).2.1);rintro e w35 ⟨rfl,hb⟩;refine ⟨_,rfl,?_⟩;have n0_ := Aside0.mk (Kd.R_below (by (with_reducible repeat (first | apply Kd.R_alloc | apply Kd.R_drewN | apply Kd.R_drew));exact HO_3.out) hb);have n1_ := Aside0.mk (Kd.R_below (by (with_reducible repeat (first | apply Kd.R_alloc | apply Kd.R_drewN | apply Kd.R_drew));exact HO_5.out) hb);have n2_ := Aside0.mk (Kd.R_below (by (with_reducible repeat (first | apply Kd.R_alloc | apply Kd.R_drewN | apply Kd.R_drew));exact HO116.out) hb);have n3_ := Aside0.mk (below_step (by repeat (first | (with_reducible first | exact HB.out | apply below_alloc | apply pw_below_drewN | apply below_drew1) | exact HB.out)) hb);clear HO_3;clear HO_5;clear HO116;clear HB;have HO_3 := n0_;have HO_5 := n1_;have HO116 := n2_;have HB := n3_;clear n0_ n1_ n2_ n3_;(try clear hb);(try clear hb2);(try clear hk);(try clear hi)))
         go_meet
         case rel => exact ⟨_,(true),(by first | rfl | (simp only [IntKind.wrap_i64,wrap64];done) | (simp;done) | (simp [*];done)),H',⟨by have := HJ4.out;first | omega | exact Nat.le_refl _⟩,⟨by (with_reducible repeat (first | apply Kd.R_alloc | apply Kd.R_drewN | apply Kd.R_drew));exact Kd.R_mono HO_5.out (fun _ hk => trivial)⟩,⟨by repeat (first | (with_reducible first | exact HB.out | apply below_alloc | apply pw_below_drewN | apply below_drew1) | exact HB.out)⟩⟩
       case rest =>
        clear HC24;(try clear c1);(try clear c2);(try clear c2b0);(try clear c2b1);(try clear p2);(try clear c3);(try clear c4);(try clear c5);(try clear c6);(try clear c7);(try clear c8);(try clear c9);(try clear c16);(try clear c19);(try clear c19b0);(try clear c22);(try clear c22b0);(try clear c22b1);(try clear c29);(try clear p2);obtain ⟨kq,x57_23,rfl,HA,HJ23,HO_5,HB⟩ := hcut;have hl5_23 := (Kd.R_reads' HO_5.out).1;rw [hl5_23] at HO_5;(try simp only [hl5_23])
        cases kq with
        | zero => exact absurd HA.out (by simp [laws_FnExactReadLog.j1])
        | succ kj23 =>
         have H := HA.out;clear HA;simp only [laws_FnExactReadLog.j1] at H
         by_cases c36 : x57_23 = true
         ·subst c36
          have H1 : (some false) = some r := by rw [if_pos rfl] at H;exact H
          clear H;have H := H1;clear H1;obtain rfl := Option.some.inj H
          go_wp2
          go_ret
          exact ⟨by first | rfl | (simp [errW_none,errW_some,IntKind.wrap_i64,wrap64];done) | (simp [errW_none,errW_some] <;> rfl) | (simp [*,errW_none,errW_some] <;> rfl),by repeat (first | (with_reducible first | exact HB.out | apply below_alloc | apply pw_below_drewN | apply below_drew1) | exact HB.out)⟩
         ·replace c36 := Bool.eq_false_iff.mpr c36;subst c36
          have H1 : ((laws_heldLog.f kj23 t111 1).bind fun t118 => (if t118 < 0 then (some false) else (if t118 = t110 then (some true) else (some false)))) = some r := by rw [if_neg (show ¬ (false = true) by decide)] at H;exact H
          clear H;have H := H1;clear H1;replace H := Option.bind_eq_some_iff.mp H;obtain ⟨t118,A370,H⟩ := H;replace H : (if t118 < 0 then (some false) else (if t118 = t110 then (some true) else (some false))) = some r := H;have A37 := Aside0.mk A370;clear A370
          by_cases c38 : t118 < 0
          ·rw [if_pos c38] at H;have c38b0 : decide (t118 < 0) = true := decide_eq_true c38;clear c38;obtain rfl := Option.some.inj H
           go_wp2_with (first | ((with_reducible refine gate_callee (f := 8) rfl ?_);refine goesL_ (some 60) rfl rfl Tryd.func8 (by kernel_rfl) rfl #[.slice Ao25 t111.length co25,.int .i64 1] rfl (by (try simp only [List.map_toArray,List.map_cons,List.map_nil]);first | done | rfl | (simp only [List.length_drop,List.length_take];rfl)) ?_;(with_reducible refine (laws_heldLog.calls kj23 _ _ t111 1 t118 _ ?side1 ?side2 A37.out).mono ?_);(case side1 => repeat (first | exact (Kd.R_reads' HO_5.out).2.2 | (with_reducible refine Kd.C_alloc ?_ _) | (with_reducible refine Kd.C_drewN ?_ _) | (with_reducible refine Kd.C_drew ?_)));(case side2 => exact (Kd.R_reads' HO_5.out).2.1);rintro e w' ⟨rfl,⟨nd,rfl⟩⟩;refine ⟨_,rfl,?_⟩))
           go_ret
           exact ⟨by first | rfl | (simp [errW_none,errW_some,IntKind.wrap_i64,wrap64];done) | (simp [errW_none,errW_some] <;> rfl) | (simp [*,errW_none,errW_some] <;> rfl),by repeat (first | (with_reducible first | exact HB.out | apply below_alloc | apply pw_below_drewN | apply below_drew1) | exact HB.out)⟩
          ·rw [if_neg c38] at H;have c38b0 : decide (t118 < 0) = false := decide_eq_false c38;clear c38
           by_cases c39 : t118 = t110
           ·rw [if_pos c39] at H;have c39b0 : (t118 == t110) = true := beq_iff_eq.mpr c39;have c39b1 : (t118 != t110) = false := bne_eq_false_iff_eq.mpr c39;clear c39;obtain rfl := Option.some.inj H
            go_wp2_with (first | ((with_reducible refine gate_callee (f := 8) rfl ?_);refine goesL_ (some 60) rfl rfl Tryd.func8 (by kernel_rfl) rfl #[.slice Ao25 t111.length co25,.int .i64 1] rfl (by (try simp only [List.map_toArray,List.map_cons,List.map_nil]);first | done | rfl | (simp only [List.length_drop,List.length_take];rfl)) ?_;(with_reducible refine (laws_heldLog.calls kj23 _ _ t111 1 t118 _ ?side1 ?side2 A37.out).mono ?_);(case side1 => repeat (first | exact (Kd.R_reads' HO_5.out).2.2 | (with_reducible refine Kd.C_alloc ?_ _) | (with_reducible refine Kd.C_drewN ?_ _) | (with_reducible refine Kd.C_drew ?_)));(case side2 => exact (Kd.R_reads' HO_5.out).2.1);rintro e w' ⟨rfl,⟨nd,rfl⟩⟩;refine ⟨_,rfl,?_⟩))
            go_ret
            exact ⟨by first | rfl | (simp [errW_none,errW_some,IntKind.wrap_i64,wrap64];done) | (simp [errW_none,errW_some] <;> rfl) | (simp [*,errW_none,errW_some] <;> rfl),by repeat (first | (with_reducible first | exact HB.out | apply below_alloc | apply pw_below_drewN | apply below_drew1) | exact HB.out)⟩
           ·rw [if_neg c39] at H;have c39b0 : (t118 == t110) = false := beq_eq_false_iff_ne.mpr c39;have c39b1 : (t118 != t110) = true := bne_iff_ne.mpr c39;obtain rfl := Option.some.inj H
            go_wp2_with (first | ((with_reducible refine gate_callee (f := 8) rfl ?_);refine goesL_ (some 60) rfl rfl Tryd.func8 (by kernel_rfl) rfl #[.slice Ao25 t111.length co25,.int .i64 1] rfl (by (try simp only [List.map_toArray,List.map_cons,List.map_nil]);first | done | rfl | (simp only [List.length_drop,List.length_take];rfl)) ?_;(with_reducible refine (laws_heldLog.calls kj23 _ _ t111 1 t118 _ ?side1 ?side2 A37.out).mono ?_);(case side1 => repeat (first | exact (Kd.R_reads' HO_5.out).2.2 | (with_reducible refine Kd.C_alloc ?_ _) | (with_reducible refine Kd.C_drewN ?_ _) | (with_reducible refine Kd.C_drew ?_)));(case side2 => exact (Kd.R_reads' HO_5.out).2.1);rintro e w' ⟨rfl,⟨nd,rfl⟩⟩;refine ⟨_,rfl,?_⟩))
            go_ret
            exact ⟨by first | rfl | (simp [errW_none,errW_some,IntKind.wrap_i64,wrap64];done) | (simp [errW_none,errW_some] <;> rfl) | (simp [*,errW_none,errW_some] <;> rfl),by repeat (first | (with_reducible first | exact HB.out | apply below_alloc | apply pw_below_drewN | apply below_drew1) | exact HB.out)⟩
      ·rw [if_neg c22] at H;have c22b0 : (t112 == t110) = false := beq_eq_false_iff_ne.mpr c22;have c22b1 : (t112 != t110) = true := bne_iff_ne.mpr c22;obtain rfl := Option.some.inj H;obtain ⟨Ao40,co40,eo40⟩ := Kd.R_slice HO_5.out;subst eo40
       go_wp2_with (first | ((with_reducible refine gate_callee (f := 7) rfl ?_);refine goesL_ (some 35) rfl rfl Tryd.func7 (by kernel_rfl) rfl #[.slice Ao40 t105.length co40,.int .i64 1] rfl (by (try simp only [List.map_toArray,List.map_cons,List.map_nil]);first | done | rfl | (simp only [List.length_drop,List.length_take];rfl)) ?_;(with_reducible refine (laws_markLog.calls kj4 (fun k_ => some k_ = (.slice Ao40 t105.length co40 : Value).ownBlock) (.slice Ao40 t105.length co40) t105 1 t110 t111 w _ ?side1 ?side2 A17.out).mono ?_);(case side1 => repeat (first | (with_reducible first | exact HB.out | apply below_alloc | apply pw_below_drewN | apply below_drew1) | exact HB.out));(case side2 => exact Kd.R_tight rfl HO_5.out);rintro e w41 ⟨rfl,hy0,hb,hkp⟩;refine ⟨_,rfl,?_⟩;have n0_ := Aside0.mk (Kd.R_mono (ok' := fun k_ => some k_ ≠ (.slice Ao40 t105.length co40 : Value).ownBlock) (Kd.R_keptB (HO_3.out) hkp (fun k_ hk_ hs_ => (hk_) hs_)) (fun k_ hk_ => hk_.1));have n1_ := Aside0.mk (Kd.R_reok rfl hy0 (fun k_ e_ => HO_5.out.1 k_ e_));have n2_ := Aside0.mk (hb);clear HO_3;clear HO_5;clear HB;have HO_3 := n0_;have HO_5 := n1_;have HB := n2_;clear n0_ n1_ n2_;(try clear hb);(try clear hkp);(try clear hy0)) | ((with_reducible refine gate_callee (f := 8) rfl ?_);refine goesL_ (some 38) rfl rfl Tryd.func8 (by kernel_rfl) rfl #[.slice Ao40 t111.length co40,.int .i64 1] rfl (by (try simp only [List.map_toArray,List.map_cons,List.map_nil]);first | done | (rw [show t111.length = t105.length from (Kd.R_reads' HO_5.out).1.symm] <;> rfl) | rfl | (simp only [List.length_drop,List.length_take];rfl)) ?_;(with_reducible refine (laws_heldLog.calls kj4 _ _ t111 1 t112 _ ?side1 ?side2 A18.out).mono ?_);(case side1 => repeat (first | exact (Kd.R_reads' HO_5.out).2.2 | (with_reducible refine Kd.C_alloc ?_ _) | (with_reducible refine Kd.C_drewN ?_ _) | (with_reducible refine Kd.C_drew ?_)));(case side2 => rw [show t111.length = t105.length from (Kd.R_reads' HO_5.out).1.symm];exact (Kd.R_reads' HO_5.out).2.1);rintro e w' ⟨rfl,⟨nd,rfl⟩⟩;refine ⟨_,rfl,?_⟩))
       go_ret
       exact ⟨by first | rfl | (simp [errW_none,errW_some,IntKind.wrap_i64,wrap64];done) | (simp [errW_none,errW_some] <;> rfl) | (simp [*,errW_none,errW_some] <;> rfl),by repeat (first | (with_reducible first | exact HB.out | apply below_alloc | apply pw_below_drewN | apply below_drew1) | exact HB.out)⟩
end Go.Proofs.YtmcfbnglocojkaaDoor.G
end

section
namespace Go.Proofs.YtmcfbnglocojkaaDoor.G.Pure
open Go.RowKit Go.Proofs.YtmcfbnglocojkaaDoor.G Go.Proofs.YtmcfbnglocojkaaDoorW.PrintWords Go.Proofs.YtmcfbnglocojkaaDoorW.PrintLast Go.Proofs.YtmcfbnglocojkaaDoorW.PrintMore
set_option linter.unusedVariables false
set_option linter.unusedSimpArgs false
theorem w64 {n : Int} (h0 : -9223372036854775808 ≤ n) (h1 : n ≤ 9223372036854775807) : wrap64 n = n := by
  unfold wrap64
  omega
theorem loop_inv {σ γ : Type} (L : Nat → σ → Option γ) (n : Nat) (I : Nat → σ → Prop) (R : γ → Prop)
    (hs : ∀ k i s, i < n → I i s → (∃ s', I (i + 1) s' ∧ L (k + 1) s = L k s') ∨ (∃ r, R r ∧ L (k + 1) s = some r))
    (he : ∀ k s, I n s → ∃ r, R r ∧ L (k + 1) s = some r) : ∀ k s, I 0 s → n < k → ∃ r, R r ∧ L k s = some r := by
  have go : ∀ d i k s, i + d = n → I i s → d < k → ∃ r, R r ∧ L k s = some r := by
    intro d
    induction d with
    | zero =>
      intro i k s hi hI hk
      obtain ⟨k, rfl⟩ : ∃ m, k = m + 1 := ⟨k - 1, by omega⟩
      obtain rfl : i = n := by omega
      exact he k s hI
    | succ d ih =>
      intro i k s hi hI hk
      obtain ⟨k, rfl⟩ : ∃ m, k = m + 1 := ⟨k - 1, by omega⟩
      rcases hs k i s (by omega) hI with ⟨s', hI', h⟩ | h
      · rw [h]
        exact ih (i + 1) k s' (by omega) hI' (by omega)
      · exact h
  intro k s hI hk
  exact go n 0 k s (by omega) hI hk
theorem rd_nat {l : List Int} {i : Nat} (h : i < l.length) : rd l (i : Int) = l[i] := by
  simp [rd, List.getD_eq_getElem?_getD, List.getElem?_eq_getElem h]
end Go.Proofs.YtmcfbnglocojkaaDoor.G.Pure
end

section
namespace Go.Proofs.YtmcfbnglocojkaaDoor.G.Pure
open Go.RowKit Go.Proofs.YtmcfbnglocojkaaDoor.G Go.Proofs.YtmcfbnglocojkaaDoorW.PrintWords Go.Proofs.YtmcfbnglocojkaaDoorW.PrintLast Go.Proofs.YtmcfbnglocojkaaDoorW.PrintMore
set_option linter.unusedVariables false
set_option linter.unusedSimpArgs false
abbrev En := S34
theorem rd_impl_Entry {l : List En} {i : Nat} (h : i < l.length) : rd_T34 l (i : Int) = l[i] := by
  simp [rd_T34, List.getD_eq_getElem?_getD, List.getElem?_eq_getElem h]
theorem rd_set_Entry {l : List En} {i : Nat} (h : i < l.length) (v : En) : rd_T34 (l.set i v) (i : Int) = v := by
  rw [rd_impl_Entry (by simpa using h)]
  simp
end Go.Proofs.YtmcfbnglocojkaaDoor.G.Pure
end

section
namespace Go.Proofs.YtmcfbnglocojkaaDoor.G.Pure
open Go.RowKit Go.Proofs.YtmcfbnglocojkaaDoor.G Go.Proofs.YtmcfbnglocojkaaDoorW.PrintWords Go.Proofs.YtmcfbnglocojkaaDoorW.PrintLast Go.Proofs.YtmcfbnglocojkaaDoorW.PrintMore
set_option linter.unusedVariables false
set_option linter.unusedSimpArgs false
theorem eqEntry_self (a : En) : laws_eqEntry.f a.f0 a.f1 a.f2 a.f0 a.f1 a.f2 = some true := by
  simp [laws_eqEntry.f]
theorem eqLog_self (k : Nat) (a : List En) (hl : a.length ≤ 1048576) (hk : a.length < k) : laws_eqLog.f k a a = some true := by
  unfold laws_eqLog.f
  rw [if_pos rfl]
  obtain ⟨r, hr, h⟩ := loop_inv (fun k (s : Int) => laws_eqLog.l0 k a a s) a.length (fun i s => s = (i : Int)) (fun r => r = true)
    (fun k i s hi h1 => by
      subst h1
      refine .inl ⟨((i + 1 : Nat) : Int), rfl, ?_⟩
      simp only [laws_eqLog.l0]
      rw [if_pos (by omega), if_pos (by omega), if_pos (by omega), eqEntry_self]
      simp only [Option.bind_some, if_true]
      rw [w64 (by omega) (by omega)]
      rfl)
    (fun k s h1 => by
      subst h1
      refine ⟨true, rfl, ?_⟩
      simp only [laws_eqLog.l0]
      rw [if_neg (by omega)]) k 0 rfl hk
  subst hr
  exact h
end Go.Proofs.YtmcfbnglocojkaaDoor.G.Pure
end

section
namespace Go.Proofs.YtmcfbnglocojkaaDoor.G.Pure
open Go.RowKit Go.Proofs.YtmcfbnglocojkaaDoor.G Go.Proofs.YtmcfbnglocojkaaDoorW.PrintWords Go.Proofs.YtmcfbnglocojkaaDoorW.PrintLast Go.Proofs.YtmcfbnglocojkaaDoorW.PrintMore
set_option linter.unusedVariables false
set_option linter.unusedSimpArgs false
abbrev bs (l : List UInt8) : ByteArray := ⟨l.toArray⟩
theorem bs_append (l m : List UInt8) : bs l ++ bs m = bs (l ++ m) := by
  apply ByteArray.ext
  simp [bs]
theorem bs_size (l : List UInt8) : (bs l).size = l.length := by simp [bs, ByteArray.size]
theorem dec_len (k : Nat) : ∀ n : Nat, n < 10 ^ (k + 1) → (Lib.decDigits n).length ≤ k + 1 := by
  induction k with
  | zero =>
    intro n h
    rw [Lib.decDigits_one (by omega)]
    simp
  | succ k ih =>
    intro n h
    by_cases h1 : n < 10
    · rw [Lib.decDigits_one h1]
      simp
    · rw [Lib.decDigits, dif_neg h1, List.length_append]
      have := ih (n / 10) (by rw [Nat.pow_succ] at h; omega)
      simp
      omega
theorem itoa_len {n : Nat} (h : n < 1000000000000000000) : (Lib.itoa (n : Int)).length ≤ 18 := by
  unfold Lib.itoa
  rw [if_neg (by omega)]
  exact dec_len 17 n (by omega)
theorem itoa_nn {x : Int} (h0 : 0 ≤ x) (h1 : x < 1000000000000000000) : (Lib.itoa x).length ≤ 18 := by
  obtain ⟨n, rfl⟩ : ∃ n : Nat, x = (n : Int) := ⟨x.toNat, by omega⟩
  exact itoa_len (by omega)
end Go.Proofs.YtmcfbnglocojkaaDoor.G.Pure
end

section
namespace Go.Proofs.YtmcfbnglocojkaaDoor.G.Pure
open Go.RowKit Go.Proofs.YtmcfbnglocojkaaDoor.G Go.Proofs.YtmcfbnglocojkaaDoorW.PrintWords Go.Proofs.YtmcfbnglocojkaaDoorW.PrintLast Go.Proofs.YtmcfbnglocojkaaDoorW.PrintMore
set_option linter.unusedVariables false
set_option linter.unusedSimpArgs false
theorem decFrom_snoc (b : UInt8) : ∀ (l : List UInt8) (acc : Nat), Lib.decFrom acc (l ++ [b]) = (Lib.decFrom acc l).bind fun m => (Lib.digitVal b).map fun d => m * 10 + d
  | [], acc => by
    simp only [List.nil_append, Lib.decFrom, Option.bind_some]
    cases Lib.digitVal b <;> rfl
  | a :: l, acc => by
    simp only [List.cons_append, Lib.decFrom]
    cases Lib.digitVal a with
    | none => rfl
    | some d => exact decFrom_snoc b l _
theorem ofNat_toNat {d : Nat} (h : d < 10) : (UInt8.ofNat (48 + d)).toNat = 48 + d := by
  simp only [UInt8.toNat_ofNat']
  omega
theorem digit_byte {d : Nat} (h : d < 10) : Lib.digitVal (UInt8.ofNat (48 + d)) = some d := by
  unfold Lib.digitVal
  rw [ofNat_toNat h, if_pos (by omega)]
  congr 1
  omega
theorem byte_digit {b : UInt8} {d : Nat} (h : Lib.digitVal b = some d) : d < 10 ∧ b = UInt8.ofNat (48 + d) := by
  obtain ⟨h0, h1, h2⟩ := Lib.digitVal_eq h
  refine ⟨by omega, UInt8.toNat_inj.1 ?_⟩
  rw [ofNat_toNat (by omega)]
  omega
theorem digits_from (n : Nat) : Lib.decFrom 0 (Lib.decDigits n) = some n := by
  induction n using Nat.strongRecOn with
  | _ n ih =>
    by_cases h : n < 10
    · rw [Lib.decDigits_one h]
      simp only [Lib.decFrom, digit_byte h]
      congr 1
      omega
    · rw [Lib.decDigits, dif_neg h, decFrom_snoc, ih (n / 10) (by omega), Option.bind_some, digit_byte (by omega)]
      simp only [Option.map_some]
      congr 1
      omega
theorem digits_head (n : Nat) : 10 ≤ n → ∃ b r, Lib.decDigits n = b :: r ∧ b ≠ 48 := by
  induction n using Nat.strongRecOn with
  | _ n ih =>
    intro h
    rw [Lib.decDigits, dif_neg (by omega)]
    by_cases h1 : n / 10 < 10
    · rw [Lib.decDigits_one h1]
      refine ⟨_, _, rfl, fun e => ?_⟩
      have := congrArg UInt8.toNat e
      rw [ofNat_toNat h1] at this
      have e48 : (48 : UInt8).toNat = 48 := rfl
      omega
    · obtain ⟨b, r, e, hb⟩ := ih (n / 10) (by omega) (by omega)
      rw [e]
      exact ⟨b, _, rfl, hb⟩
theorem digits_back : ∀ (k : Nat) (l : List UInt8), l.length = k + 1 → ∀ n, Lib.decFrom 0 l = some n → (l.head? = some 48 → l.length = 1) → l = Lib.decDigits n := by
  intro k
  induction k with
  | zero =>
    intro l hl n h _
    match l, hl with
    | [b], _ =>
      simp only [Lib.decFrom] at h
      cases e : Lib.digitVal b with
      | none => rw [e] at h; cases h
      | some d =>
        rw [e] at h
        obtain ⟨hd, hb⟩ := byte_digit e
        simp only [Option.some.injEq] at h
        have : n = d := by omega
        subst this
        rw [Lib.decDigits_one hd, hb]
  | succ k ih =>
    intro l hl n h hh
    have hne : l ≠ [] := by intro e; rw [e] at hl; simp at hl
    obtain ⟨p, b, rfl⟩ : ∃ p b, l = p ++ [b] := ⟨_, _, (List.dropLast_concat_getLast hne).symm⟩
    rw [List.length_append, List.length_singleton] at hl
    rw [decFrom_snoc] at h
    cases em : Lib.decFrom 0 p with
    | none => rw [em] at h; cases h
    | some m =>
      rw [em, Option.bind_some] at h
      cases ed : Lib.digitVal b with
      | none => rw [ed] at h; cases h
      | some d =>
        rw [ed, Option.map_some, Option.some.injEq] at h
        obtain ⟨hd, hb⟩ := byte_digit ed
        obtain ⟨c, r, hp⟩ : ∃ c r, p = c :: r := by
          cases p with
          | nil => simp at hl
          | cons c r => exact ⟨c, r, rfl⟩
        have hc : ¬ p.head? = some 48 := fun e => by
          have := hh (by rw [hp] at e ⊢; simpa using e)
          rw [List.length_append, List.length_singleton] at this
          omega
        have e := ih p (by omega) m em (fun e => absurd e hc)
        have hm : 1 ≤ m := by
          rcases Nat.eq_zero_or_pos m with h0 | h0
          · subst h0
            rw [Lib.decDigits_one (by omega)] at e
            exact absurd (by rw [e]; rfl) hc
          · exact h0
        rw [Lib.decDigits, dif_neg (by omega), show n / 10 = m by omega, show n % 10 = d by omega, ← e, ← hb]
def numO (l : List UInt8) : Option Nat := if l = [] then none else if 9 < l.length then none else if l.head? = some 48 ∧ 1 < l.length then none else Lib.decFrom 0 l
theorem numO_some {l : List UInt8} {n : Nat} (h : numO l = some n) : l = Lib.decDigits n ∧ n < 1000000000 := by
  unfold numO at h
  split at h
  · cases h
  · split at h
    · cases h
    · split at h
      · cases h
      · rename_i h1 h2 h3
        have hl : 1 ≤ l.length := by
          cases l with
          | nil => exact absurd rfl h1
          | cons _ _ => simp
        refine ⟨digits_back (l.length - 1) l (by omega) n h (fun e => ?_), ?_⟩
        · rcases Nat.lt_or_ge 1 l.length with h4 | h4
          · exact absurd ⟨e, h4⟩ h3
          · omega
        · have := Lib.decFrom_lt l 0 n h
          have h5 : 10 ^ l.length ≤ 10 ^ 9 := Nat.pow_le_pow_right (by omega) (by omega)
          omega
theorem digits_ne (n : Nat) : Lib.decDigits n ≠ [] := fun e => by
  by_cases h : n < 10
  · rw [Lib.decDigits_one h] at e
    cases e
  · obtain ⟨b, r, e1, _⟩ := digits_head n (by omega)
    rw [e1] at e
    cases e
theorem numO_digits {n : Nat} (h : n < 1000000000) : numO (Lib.decDigits n) = some n := by
  unfold numO
  have hl := dec_len 8 n (by omega)
  rw [if_neg (digits_ne n), if_neg (by omega), if_neg, digits_from]
  rintro ⟨h1, h2⟩
  by_cases h3 : n < 10
  · rw [Lib.decDigits_one h3] at h2
    simp at h2
  · obtain ⟨b, r, e, hb⟩ := digits_head n (by omega)
    rw [e] at h1
    exact hb (by simpa using h1)
theorem decFrom_ge : ∀ (l : List UInt8) (acc n : Nat), Lib.decFrom acc l = some n → acc ≤ n
  | [], acc, n, h => by
    simp only [Lib.decFrom, Option.some.injEq] at h
    omega
  | b :: l, acc, n, h => by
    simp only [Lib.decFrom] at h
    cases e : Lib.digitVal b with
    | none => rw [e] at h; cases h
    | some d =>
      rw [e] at h
      have := decFrom_ge l _ n h
      omega
theorem parseM_of : ∀ (l : List UInt8) (acc n : Nat), Lib.decFrom acc l = some n → n < 1000000000000000000 → Lib.parseUintM (2 ^ 64 - 1) acc l = .ok n
  | [], acc, n, h, _ => by
    simp only [Lib.decFrom, Option.some.injEq] at h
    subst h
    rfl
  | b :: l, acc, n, h, hn => by
    simp only [Lib.decFrom] at h
    cases e : Lib.digitVal b with
    | none => rw [e] at h; cases h
    | some d =>
      rw [e] at h
      obtain ⟨h0, h1, h2⟩ := Lib.digitVal_eq e
      have h3 := decFrom_ge l _ n h
      unfold Lib.parseUintM
      rw [if_pos ⟨h0, h1⟩, if_neg (by omega), if_neg (by omega), ← h2]
      exact parseM_of l _ n h hn
theorem parse_digits {n : Nat} (h : n < 1000000000) : Lib.parseIntB 64 (Lib.decDigits n) = .ok (n : Int) := by
  have hf := digits_from n
  have hne := digits_ne n
  generalize Lib.decDigits n = l at hf hne
  cases l with
  | nil => exact absurd rfl hne
  | cons c r =>
    have hc : 48 ≤ c.toNat := by
      simp only [Lib.decFrom] at hf
      cases e : Lib.digitVal c with
      | none => rw [e] at hf; cases hf
      | some d => exact (Lib.digitVal_eq e).1
    have hp := parseM_of _ _ _ hf (by omega)
    unfold Lib.parseIntB Lib.parseUintB
    simp only
    rw [if_neg (show ¬ (c.toNat = 43 ∨ c.toNat = 45) by omega), if_neg (show ¬ (c :: r = []) by simp), hp]
    simp only
    rw [if_neg (by omega), if_neg (by omega), if_neg (by omega)]
end Go.Proofs.YtmcfbnglocojkaaDoor.G.Pure
end

section
namespace Go.Proofs.YtmcfbnglocojkaaDoor.G.Pure
open Go.RowKit Go.Proofs.YtmcfbnglocojkaaDoor.G Go.Proofs.YtmcfbnglocojkaaDoorW.PrintWords Go.Proofs.YtmcfbnglocojkaaDoorW.PrintLast Go.Proofs.YtmcfbnglocojkaaDoorW.PrintMore
set_option linter.unusedVariables false
set_option linter.unusedSimpArgs false
def spl (c : UInt8) : List UInt8 → List (List UInt8)
  | [] => [[]]
  | b :: l => if b = c then [] :: spl c l else (match spl c l with | [] => [[b]] | h :: t => (b :: h) :: t)
theorem spl_ne (c : UInt8) (l : List UInt8) : spl c l ≠ [] := by
  cases l with
  | nil => simp [spl]
  | cons b l =>
    unfold spl
    split
    · simp
    · split <;> simp
theorem spl_miss (c : UInt8) : ∀ (s : List UInt8), (∀ b ∈ s, b ≠ c) → spl c s = [s]
  | [], _ => rfl
  | b :: l, h => by
    unfold spl
    rw [if_neg (h b (by simp)), spl_miss c l (fun x hx => h x (by simp [hx]))]
theorem spl_hit (c : UInt8) (t : List UInt8) : ∀ (p : List UInt8), (∀ b ∈ p, b ≠ c) → spl c (p ++ c :: t) = p :: spl c t
  | [], _ => by
    simp only [List.nil_append]
    conv => lhs; unfold spl
    rw [if_pos rfl]
  | b :: p, h => by
    simp only [List.cons_append]
    conv => lhs; unfold spl
    rw [if_neg (h b (by simp)), spl_hit c t p (fun x hx => h x (by simp [hx]))]
theorem bs_extract (s : List UInt8) (a b : Nat) : (bs s).extract a b = bs ((s.take b).drop a) := by
  apply ByteArray.ext
  simp [bs, ByteArray.data_extract, List.extract_eq_take_drop, List.drop_take]
theorem split_eq (c : UInt8) : ∀ (k : Nat) (s : List UInt8), Lib.countB (bs s) (bs [c]) = k → Lib.splitB (bs [c]) 0 k (bs s) = (spl c s).map bs := by
  have h1 : (bs [c]).size = 1 := rfl
  intro k
  induction k with
  | zero =>
    intro s hk
    rw [Lib.splitB_zero]
    have : Lib.indexB (bs s) (bs [c]) = -1 := by
      rcases Lib.indexB_cases (bs s) (bs [c]) with h | ⟨i, h, _⟩
      · exact h
      · have := Lib.countB_hit (bs s) (bs [c]) i (by omega) h
        omega
    have h2 : Lib.indexByte s c = -1 := by
      rw [← Lib.index_one]
      exact this
    rw [spl_miss c s (fun b hb e => by
      obtain ⟨j, hj, rfl⟩ := List.mem_iff_getElem.1 hb
      exact Lib.indexByte_none h2 j (by rw [List.getElem?_eq_getElem hj, e]))]
    rfl
  | succ k ih =>
    intro s hk
    rcases Lib.indexB_cases (bs s) (bs [c]) with h | ⟨i, h, hi⟩
    · rw [Lib.countB_miss _ _ h] at hk
      omega
    · have hc := Lib.countB_hit (bs s) (bs [c]) i (by omega) h
      have h2 : Lib.indexByte s c = (i : Int) := by
        rw [← Lib.index_one]
        exact h
      obtain ⟨hg, hb⟩ := Lib.indexByte_some h2
      have hil : i < s.length := (List.getElem?_eq_some_iff.1 hg).1
      have hs : s = s.take i ++ c :: s.drop (i + 1) := by
        have e3 : s[i] = c := (List.getElem?_eq_some_iff.1 hg).2
        rw [show c :: s.drop (i + 1) = s[i] :: s.drop (i + 1) by rw [e3], ← List.drop_eq_getElem_cons hil, List.take_append_drop]
      have hsz : (bs s).size = s.length := bs_size s
      rw [Lib.splitB_hit _ _ _ _ i h, bs_extract, bs_extract, h1, hsz]
      rw [bs_extract, h1, hsz] at hc
      have e1 : (s.take s.length).drop (i + 1) = s.drop (i + 1) := by rw [List.take_of_length_le (Nat.le_refl _)]
      have e2 : (s.take (i + 0)).drop 0 = s.take i := by simp
      rw [e1] at hc ⊢
      rw [e2, ih _ (by omega)]
      conv => rhs; rw [hs]
      rw [spl_hit c _ _ (fun b hb' e => by
        obtain ⟨j, hj, rfl⟩ := List.mem_iff_getElem.1 hb'
        rw [List.length_take] at hj
        rw [List.getElem_take] at e
        exact hb j (by omega) ((List.getElem?_eq_getElem (by omega)).trans (congrArg some e)))]
      rfl
end Go.Proofs.YtmcfbnglocojkaaDoor.G.Pure
end

section
namespace Go.Proofs.YtmcfbnglocojkaaDoor.G.Pure
open Go.RowKit Go.Proofs.YtmcfbnglocojkaaDoor.G Go.Proofs.YtmcfbnglocojkaaDoorW.PrintWords Go.Proofs.YtmcfbnglocojkaaDoorW.PrintLast Go.Proofs.YtmcfbnglocojkaaDoorW.PrintMore
set_option linter.unusedVariables false
set_option linter.unusedSimpArgs false
theorem from_digits : ∀ (l : List UInt8) (acc n : Nat), Lib.decFrom acc l = some n → ∀ b ∈ l, ∃ d, Lib.digitVal b = some d
  | [], _, _, _, b, hb => by simp at hb
  | c :: l, acc, n, h, b, hb => by
    unfold Lib.decFrom at h
    cases hd : Lib.digitVal c with
    | none => rw [hd] at h; simp at h
    | some d =>
      rw [hd] at h
      rcases List.mem_cons.1 hb with e | e
      · rw [e]
        exact ⟨d, hd⟩
      · exact from_digits l _ n h b e
theorem digit_ne {b : UInt8} {d : Nat} (h : Lib.digitVal b = some d) : b ≠ 32 ∧ b ≠ 47 := by
  obtain ⟨h1, h2⟩ := byte_digit h
  have h3 := ofNat_toNat h1
  rw [← h2] at h3
  refine ⟨fun e => ?_, fun e => ?_⟩
  · rw [e] at h3
    have : (32 : UInt8).toNat = 32 := rfl
    omega
  · rw [e] at h3
    have : (47 : UInt8).toNat = 47 := rfl
    omega
theorem itoa_ne {x : Int} (h0 : 0 ≤ x) : ∀ b ∈ Lib.itoa x, b ≠ 32 ∧ b ≠ 47 := fun b hb => by
  unfold Lib.itoa at hb
  rw [if_neg (by omega)] at hb
  obtain ⟨d, hd⟩ := from_digits _ 0 _ (digits_from x.toNat) b hb
  exact digit_ne hd
theorem numO_itoa {x : Int} (h0 : 0 ≤ x) (h1 : x < 1000000000) : numO (Lib.itoa x) = some x.toNat := by
  unfold Lib.itoa
  rw [if_neg (by omega)]
  exact numO_digits (by omega)
end Go.Proofs.YtmcfbnglocojkaaDoor.G.Pure
end

section
namespace Go.Proofs.YtmcfbnglocojkaaDoor.G.Pure
open Go.RowKit Go.Proofs.YtmcfbnglocojkaaDoor.G Go.Proofs.YtmcfbnglocojkaaDoorW.PrintWords Go.Proofs.YtmcfbnglocojkaaDoorW.PrintLast Go.Proofs.YtmcfbnglocojkaaDoorW.PrintMore
set_option linter.unusedVariables false
set_option linter.unusedSimpArgs false
theorem itoa_nat (n : Nat) : Lib.itoa (n : Int) = Lib.decDigits n := by
  unfold Lib.itoa
  rw [if_neg (by omega)]
  rfl
theorem implNumber (l : List UInt8) (hl : l.length ≤ 281474976710656) (most : Int) (h1 : most < 1000000000) : impl_number.f (bs l) most = some (match numO l with | some n => if (n : Int) ≤ most then ((n : Int), true) else (0, false) | none => (0, false)) := by
  unfold impl_number.f
  rw [bs_size, if_pos hl]
  have hd : (bs l).data.toList = l := rfl
  rw [hd]
  cases hn : numO l with
  | some n =>
    obtain ⟨he, hb⟩ := numO_some hn
    rw [he, parse_digits hb]
    simp only
    have : impl_number.is (bs (Lib.decDigits n)) most (n : Int) = decide ((n : Int) ≤ most) := by
      unfold impl_number.is
      rw [decide_eq_true (show Lib.itoa (n : Int) = (bs (Lib.decDigits n)).data.toList from itoa_nat n), decide_eq_true (show (0 : Int) ≤ (n : Int) by omega)]
      simp
    rw [this]
    by_cases h : (n : Int) ≤ most
    · rw [if_pos h, decide_eq_true h]
      rfl
    · rw [if_neg h, decide_eq_false h]
      rfl
  | none =>
    cases hp : Lib.parseIntB 64 l with
    | «syntax» => rfl
    | range => rfl
    | ok v =>
      simp only
      have : impl_number.is (bs l) most v = false := by
        cases e : impl_number.is (bs l) most v with
        | false => rfl
        | true =>
          unfold impl_number.is at e
          simp only [Bool.and_eq_true, decide_eq_true_eq] at e
          obtain ⟨e1, e2, e3⟩ := e
          obtain ⟨n, rfl⟩ : ∃ n : Nat, v = (n : Int) := ⟨v.toNat, by omega⟩
          rw [itoa_nat] at e1
          have e4 : l = Lib.decDigits n := e1.symm
          rw [e4, numO_digits (by omega)] at hn
          cases hn
      rw [this]
      rfl
end Go.Proofs.YtmcfbnglocojkaaDoor.G.Pure
end

section
namespace Go.Proofs.YtmcfbnglocojkaaDoor.G.Pure
open Go.RowKit Go.Proofs.YtmcfbnglocojkaaDoor.G Go.Proofs.YtmcfbnglocojkaaDoorW.PrintWords Go.Proofs.YtmcfbnglocojkaaDoorW.PrintLast Go.Proofs.YtmcfbnglocojkaaDoorW.PrintMore
set_option linter.unusedVariables false
set_option linter.unusedSimpArgs false
theorem dec_impl_int {x : Int} (h0 : 0 ≤ x) (h1 : x < 1000000000000000000) : impl_decimal.f x = some (bs (Lib.itoa x)) := by
  unfold impl_decimal.f
  rw [if_pos (by omega), if_pos (by omega)]
end Go.Proofs.YtmcfbnglocojkaaDoor.G.Pure
end

section
namespace Go.Proofs.YtmcfbnglocojkaaDoor.G.Pure
open Go.RowKit Go.Proofs.YtmcfbnglocojkaaDoor.G Go.Proofs.YtmcfbnglocojkaaDoorW.PrintWords Go.Proofs.YtmcfbnglocojkaaDoorW.PrintLast Go.Proofs.YtmcfbnglocojkaaDoorW.PrintMore
set_option linter.unusedVariables false
set_option linter.unusedSimpArgs false
theorem loop_inv2 {σ γ : Type} (L : Nat → σ → Option γ) (n K0 : Nat) (I : Nat → σ → Prop) (R : γ → Prop)
    (hs : ∀ k i s, i < n → K0 ≤ k → I i s → (∃ s', I (i + 1) s' ∧ L (k + 1) s = L k s') ∨ (∃ r, R r ∧ L (k + 1) s = some r))
    (he : ∀ k s, K0 ≤ k → I n s → ∃ r, R r ∧ L (k + 1) s = some r) : ∀ k s, I 0 s → n + K0 < k → ∃ r, R r ∧ L k s = some r := by
  have go : ∀ d i k s, i + d = n → I i s → d + K0 < k → ∃ r, R r ∧ L k s = some r := by
    intro d
    induction d with
    | zero =>
      intro i k s hi hI hk
      obtain ⟨k, rfl⟩ : ∃ m, k = m + 1 := ⟨k - 1, by omega⟩
      obtain rfl : i = n := by omega
      exact he k s (by omega) hI
    | succ d ih =>
      intro i k s hi hI hk
      obtain ⟨k, rfl⟩ : ∃ m, k = m + 1 := ⟨k - 1, by omega⟩
      rcases hs k i s (by omega) (by omega) hI with ⟨s', hI', h⟩ | h
      · rw [h]
        exact ih (i + 1) k s' (by omega) hI' (by omega)
      · exact h
  intro k s hI hk
  exact go n 0 k s (by omega) hI (by omega)
end Go.Proofs.YtmcfbnglocojkaaDoor.G.Pure
end

section
namespace Go.Proofs.YtmcfbnglocojkaaDoor.G.Pure
open Go.RowKit Go.Proofs.YtmcfbnglocojkaaDoor.G Go.Proofs.YtmcfbnglocojkaaDoorW.PrintWords Go.Proofs.YtmcfbnglocojkaaDoorW.PrintLast Go.Proofs.YtmcfbnglocojkaaDoorW.PrintMore
set_option linter.unusedVariables false
set_option linter.unusedSimpArgs false
def atE (l : List En) (i : Nat) (out : List Int) : Int := impl_Log_up.at l (rd_T34 l (i : Int)) out
def upsStep (l : List En) (i : Nat) (out : List Int) : Option (List Int) :=
  if decide (atE l i out < 0) = (rd_T34 l (i : Int)).f2 then none else if (rd_T34 l (i : Int)).f2 = true then some (out.eraseIdx (atE l i out).toNat) else some (out ++ [(i : Int)])
def ups (l : List En) : Nat → Option (List Int)
  | 0 => some []
  | n + 1 => (ups l n).bind (upsStep l n)
def lastT (l : List En) : Nat → Int
  | 0 => 0
  | n + 1 => (rd_T34 l (n : Int)).f0
def gd (l : List En) : Nat → Bool
  | 0 => true
  | n + 1 => gd l n && impl_Log_up.good (lastT l n) (rd_T34 l (n : Int))
theorem to_eq (l : List En) (n : Nat) : impl_Log_up.to l n = if gd l n = true then (ups l n).map (fun o => (lastT l n, o)) else none := by
  induction n with
  | zero => rfl
  | succ n ih =>
    rw [impl_Log_up.to, ih, ups, gd]
    cases hg : gd l n with
    | false => simp
    | true =>
      cases hu : ups l n with
      | none => simp
      | some o =>
        simp only [if_true, Option.map_some, Option.bind_some, Bool.true_and]
        unfold impl_Log_up.step upsStep atE
        cases hgd : impl_Log_up.good (lastT l n) (rd_T34 l (n : Int)) with
        | false => simp [hgd]
        | true =>
          simp only [hgd, Bool.true_eq_false, if_false, if_true]
          split
          · rfl
          · split <;> rfl
theorem gd_false {l : List En} {i n : Nat} (h : gd l i = false) (hi : i ≤ n) : gd l n = false := by
  induction n with
  | zero => obtain rfl : i = 0 := by omega
            exact h
  | succ n ih =>
    rcases Nat.lt_or_ge i (n + 1) with h1 | h1
    · rw [gd, ih (by omega)]
      rfl
    · obtain rfl : i = n + 1 := by omega
      exact h
theorem ups_none {l : List En} {i n : Nat} (h : ups l i = none) (hi : i ≤ n) : ups l n = none := by
  induction n with
  | zero => obtain rfl : i = 0 := by omega
            exact h
  | succ n ih =>
    rcases Nat.lt_or_ge i (n + 1) with h1 | h1
    · rw [ups, ih (by omega)]
      rfl
    · obtain rfl : i = n + 1 := by omega
      exact h
theorem idxP_none {α : Type} {p : α → Bool} {l : List α} (h : idxP p l < 0) : ∀ x ∈ l, p x = false := by
  have := idxP_nonneg p l
  rw [decide_eq_false (by omega)] at this
  intro x hx
  exact List.any_eq_false.1 this.symm x hx |> (by simpa using ·)
theorem ups_ok {l : List En} {n : Nat} {out : List Int} (h : ups l n = some out) : out.length ≤ n ∧ (∀ x ∈ out, 0 ≤ x ∧ x < (n : Int)) ∧ out.Pairwise (fun a b => (rd_T34 l a).f1 ≠ (rd_T34 l b).f1) := by
  induction n generalizing out with
  | zero =>
    cases h
    simp
  | succ n ih =>
    rw [ups] at h
    obtain ⟨s0, h0, h1⟩ := Option.bind_eq_some_iff.1 h
    obtain ⟨i1, i2, i3⟩ := ih h0
    unfold upsStep at h1
    split at h1
    · cases h1
    · rename_i hne
      split at h1
      · cases h1
        refine ⟨?_, fun x hx => ?_, i3.sublist (List.eraseIdx_sublist ..)⟩
        · have := List.length_eraseIdx_le (l := s0) (i := (atE l n s0).toNat)
          omega
        · have := i2 x (List.mem_of_mem_eraseIdx hx)
          omega
      · rename_i hf
        cases h1
        refine ⟨by simp; omega, fun x hx => ?_, ?_⟩
        · simp only [List.mem_append, List.mem_singleton] at hx
          rcases hx with hx | rfl
          · have := i2 x hx
            omega
          · omega
        · rw [List.pairwise_append]
          refine ⟨i3, by simp, fun a ha b hb => ?_⟩
          simp only [List.mem_singleton] at hb
          subst hb
          have hk : atE l n s0 < 0 := by
            apply Classical.byContradiction
            intro hh
            rw [decide_eq_false hh] at hne
            simp only [Bool.not_eq_true] at hf
            exact hne hf.symm
          have := idxP_none hk a ha
          simpa using this
theorem idxP_take {p : Int → Bool} {out : List Int} {j : Nat} (hj : j < out.length) (hu : ∀ a b (ha : a < out.length) (hb : b < out.length), a < b → p out[a] = true → p out[b] = true → False) : idxP p (out.take (j + 1)) = if p out[j] = true then (j : Int) else idxP p (out.take j) := by
  split
  · rename_i h
    refine idxP_hit (k := j) (y := out[j]) (by rw [List.getElem?_take_of_lt (by omega)]; exact List.getElem?_eq_getElem hj) h (fun a x ha hx => ?_)
    rw [List.getElem?_take_of_lt (by omega)] at hx
    obtain ⟨h1, rfl⟩ := List.getElem?_eq_some_iff.1 hx
    cases hp : p out[a] with
    | false => rfl
    | true => exact (hu a j h1 hj ha hp h).elim
  · rename_i h
    simp only [Bool.not_eq_true] at h
    unfold idxP
    rw [List.take_succ_eq_append_getElem hj, List.findIdx?_append]
    cases e : (out.take j).findIdx? p with
    | some i => simp
    | none => simp [h]
set_option maxHeartbeats 400000 in
theorem specUp_inner {l : List En} {n : Int} {out : List Int} {i : Nat} (hi : i < l.length) (hl : l.length ≤ 60) (ho : out.length ≤ i ∧ (∀ x ∈ out, 0 ≤ x ∧ x < (i : Int)) ∧ out.Pairwise (fun a b => (rd_T34 l a).f1 ≠ (rd_T34 l b).f1)) :
    ∀ (d j K : Nat), j + d = out.length → spec_l07Up.l1 (K + d + 1) l n out (i : Int) (idxP (fun m => (rd_T34 l m).f1 == (rd_T34 l (i : Int)).f1) (out.take j)) (j : Int) = spec_l07Up.l1 (K + 1) l n out (i : Int) (atE l i out) (out.length : Int) := by
  intro d
  induction d with
  | zero =>
    intro j K hj
    obtain rfl : j = out.length := by omega
    rw [List.take_length]
    rfl
  | succ d ih =>
    intro j K hj
    have hjo : j < out.length := by omega
    obtain ⟨h1, h2, h3⟩ := ho
    have hm := h2 out[j] (List.getElem_mem hjo)
    rw [← ih (j + 1) K (by omega), show K + (d + 1) + 1 = (K + d + 1) + 1 by omega]
    conv => lhs; unfold spec_l07Up.l1
    rw [if_pos (by omega), if_pos (by omega), rd_nat hjo, if_pos (by omega), if_pos (by omega), if_pos (by omega), if_pos (by omega), w64 (by omega) (by omega), idxP_take hjo (fun a b ha hb hab pa pb => ?_)]
    · by_cases hq : (rd_T34 l out[j]).f1 = (rd_T34 l (i : Int)).f1
      · rw [if_pos hq, if_pos (by simpa using hq)]
        rfl
      · rw [if_neg hq, if_neg (by simpa using hq)]
        rfl
    · have := List.pairwise_iff_getElem.1 h3 a b ha hb hab
      simp only [beq_iff_eq] at pa pb
      exact this (pa.trans pb.symm)
set_option maxHeartbeats 1000000 in
theorem specUp_outer {l : List En} {n : Nat} (hn : n ≤ l.length) (hl : l.length ≤ 60) : ∀ (d i : Nat) (out : List Int) (K : Nat), i + d = n → ups l i = some out → 70 * (d + 1) ≤ K → spec_l07Up.l0 K l (n : Int) out (i : Int) = some (match ups l n with | some o => (o, true) | none => ([], false)) := by
  intro d
  induction d with
  | zero =>
    intro i out K hi hu hK
    obtain ⟨K, rfl⟩ : ∃ m, K = m + 1 := ⟨K - 1, by omega⟩
    obtain rfl : i = n := by omega
    simp only [spec_l07Up.l0]
    rw [if_neg (by omega), hu]
  | succ d ih =>
    intro i out K hi hu hK
    have ho := ups_ok hu
    obtain ⟨h1, h2, h3⟩ := ho
    obtain ⟨K, rfl⟩ : ∃ m, K = m + out.length + 2 := ⟨K - out.length - 2, by omega⟩
    have hK2 : 70 * (d + 1) ≤ K := by omega
    have hi2 : i + 1 + d = n := by omega
    have hsucc : ((i + 1 : Nat) : Int) = (i : Int) + 1 := by omega
    simp only [spec_l07Up.l0]
    rw [if_pos (by omega)]
    have e := specUp_inner (n := (n : Int)) (l := l) (out := out) (i := i) (by omega) hl ⟨h1, h2, h3⟩ out.length 0 K (by omega)
    rw [show idxP (fun m => (rd_T34 l m).f1 == (rd_T34 l (i : Int)).f1) (out.take 0) = -1 from rfl] at e
    rw [show ((0 : Nat) : Int) = 0 from rfl] at e
    rw [e]
    have hlt := impl_Log_up.idx_lt (fun m => (rd_T34 l m).f1 == (rd_T34 l (i : Int)).f1) out
    have hs : ups l (i + 1) = upsStep l i out := by rw [ups, hu]; rfl
    have hat : idxP (fun m => (rd_T34 l m).f1 == (rd_T34 l (i : Int)).f1) out = atE l i out := rfl
    rw [hat] at hlt
    conv => lhs; unfold spec_l07Up.l1
    rw [if_neg (by omega), if_pos (by omega), if_pos (by omega)]
    unfold upsStep at hs
    by_cases hneg : atE l i out < 0
    · rw [decide_eq_true hneg] at hs
      rw [show decide (atE l i out ≥ 0) = false from decide_eq_false (by omega)]
      cases hf : (rd_T34 l (i : Int)).f2 with
      | true =>
        rw [hf, if_pos rfl] at hs
        rw [if_pos (by rfl), ups_none hs (by omega)]
      | false =>
        rw [hf, if_neg (by simp), if_neg (by simp)] at hs
        rw [if_neg (by simp), if_pos hneg, if_pos (by omega), w64 (by omega) (by omega)]
        have e2 := ih (i + 1) _ K hi2 hs hK2
        rw [hsucc] at e2
        rw [e2]
    · rw [decide_eq_false hneg] at hs
      rw [show decide (atE l i out ≥ 0) = true from decide_eq_true (by omega)]
      cases hf : (rd_T34 l (i : Int)).f2 with
      | false =>
        rw [hf, if_pos rfl] at hs
        rw [if_pos (by rfl), ups_none hs (by omega)]
      | true =>
        rw [hf, if_neg (by simp), if_pos rfl] at hs
        rw [if_neg (by simp), if_neg hneg]
        simp only [Option.bind_some, List.nil_append]
        obtain ⟨q, hq⟩ : ∃ q : Nat, atE l i out = (q : Int) := ⟨(atE l i out).toNat, by omega⟩
        rw [hq] at hs hlt ⊢
        rw [if_pos (by omega), if_pos (by omega), if_pos (by simp; omega), if_pos (by rw [w64 (by omega) (by omega)]; omega), w64 (n := (q : Int) + 1) (by omega) (by omega), if_pos (by omega), if_pos (by simp; omega), w64 (n := (i : Int) + 1) (by omega) (by omega)]
        rw [Int.toNat_natCast, show ((q : Int) + 1).toNat = q + 1 by omega, ← List.eraseIdx_eq_take_drop_succ]
        have e2 := ih (i + 1) (out.eraseIdx q) K hi2 (by rw [hs, Int.toNat_natCast]) hK2
        rw [hsucc] at e2
        rw [e2]
theorem specUp_eq {l : List En} {n K : Nat} (hn : n ≤ l.length) (hl : l.length ≤ 60) (hK : 5000 < K) : spec_l07Up.f K l (n : Int) = some (match ups l n with | some o => (o, true) | none => ([], false)) := by
  unfold spec_l07Up.f
  exact specUp_outer hn hl n 0 [] K (by omega) rfl (by omega)
def validG (l : List En) : Bool := decide (l.length ≤ 60) && gd l l.length && (ups l l.length).isSome
theorem implValid_log {l : List En} (hl : l.length ≤ 1048576) : impl_ValidLog.f l = some (validG l) := by
  unfold impl_ValidLog.f impl_Log_up.f validG
  rw [if_pos hl, to_eq]
  cases hg : gd l l.length with
  | false => simp
  | true =>
    cases hu : ups l l.length with
    | none => simp
    | some o => simp; omega
theorem in_log (n lo hi : Int) : spec_l00In.f n lo hi = some (decide (lo ≤ n) && decide (n ≤ hi)) := by
  unfold spec_l00In.f
  by_cases h : lo ≤ n
  · rw [if_pos h, decide_eq_true h]
    rfl
  · rw [if_neg h, decide_eq_false h]
    rfl
theorem specOk_log {k : Nat} {l : List En} (hk : 6000 < k) : spec_l07Ok.f k l = some (validG l) := by
  unfold spec_l07Ok.f
  by_cases hl : l.length ≤ 60
  · rw [if_neg (by omega)]
    obtain ⟨r, hr, h⟩ := loop_inv2 (fun k (s : Int × Int) => spec_l07Ok.l0 k l s.1 s.2) l.length 5001 (fun i s => s.2 = (i : Int) ∧ s.1 = lastT l i ∧ gd l i = true) (fun r => r = validG l)
      (fun k i s hi hk ⟨h1, h2, h3⟩ => by
        obtain ⟨a, x⟩ := s
        simp only at h1 h2 h3
        subst h1 h2
        simp only [spec_l07Ok.l0]
        rw [if_pos (by omega), if_pos (by omega), in_log]
        simp only [Option.bind_some]
        have hg : gd l (i + 1) = impl_Log_up.good (lastT l i) (rd_T34 l (i : Int)) := by rw [gd, h3]; rfl
        unfold impl_Log_up.good at hg
        have hbad : gd l (i + 1) = false → false = validG l := fun h => by
          unfold validG
          rw [gd_false h (by omega)]
          simp
        cases hb1 : (decide (lastT l i ≤ (rd_T34 l (i : Int)).f0) && decide ((rd_T34 l (i : Int)).f0 ≤ 100000)) with
        | false =>
          rw [hb1] at hg
          exact .inr ⟨false, hbad hg, by simp⟩
        | true =>
          rw [hb1] at hg
          rw [if_pos rfl, in_log]
          simp only [Option.bind_some]
          cases hb2 : (decide (0 ≤ (rd_T34 l (i : Int)).f1) && decide ((rd_T34 l (i : Int)).f1 ≤ 9999)) with
          | false =>
            rw [hb2] at hg
            exact .inr ⟨false, hbad hg, by simp⟩
          | true =>
            rw [hb2] at hg
            refine .inl ⟨((rd_T34 l (i : Int)).f0, ((i + 1 : Nat) : Int)), ⟨rfl, rfl, hg⟩, ?_⟩
            rw [if_pos rfl, w64 (by omega) (by omega)]
            rfl)
      (fun k s hk ⟨h1, h2, h3⟩ => by
        obtain ⟨a, x⟩ := s
        simp only at h1 h2 h3
        subst h1 h2
        refine ⟨validG l, rfl, ?_⟩
        simp only [spec_l07Ok.l0]
        rw [if_neg (by omega), specUp_eq (Nat.le_refl _) hl (by omega)]
        unfold validG
        rw [h3]
        cases ups l l.length <;> simp [hl]) k (0, 0) ⟨rfl, rfl, rfl⟩ (by omega)
    subst hr
    exact h
  · rw [if_pos (by omega)]
    unfold validG
    simp [hl]
end Go.Proofs.YtmcfbnglocojkaaDoor.G.Pure
end

section
namespace Go.Proofs.YtmcfbnglocojkaaDoor.G.Pure
open Go.RowKit Go.Proofs.YtmcfbnglocojkaaDoor.G Go.Proofs.YtmcfbnglocojkaaDoorW.PrintWords Go.Proofs.YtmcfbnglocojkaaDoorW.PrintLast Go.Proofs.YtmcfbnglocojkaaDoorW.PrintMore
set_option linter.unusedVariables false
set_option linter.unusedSimpArgs false
def entTxt (x : En) : List UInt8 := Lib.itoa x.f0 ++ (if x.f2 = true then [32, 100, 111, 119, 110, 32] else [32, 117, 112, 32]) ++ Lib.itoa x.f1 ++ [10]
def okEnt (x : En) : Prop := (0 ≤ x.f0 ∧ x.f0 ≤ 100000) ∧ (0 ≤ x.f1 ∧ x.f1 ≤ 9999)
theorem entTxt_le {x : En} (h : okEnt x) : (entTxt x).length ≤ 43 := by
  obtain ⟨⟨h0, h1⟩, ⟨h2, h3⟩⟩ := h
  have := itoa_nn h0 (by omega)
  have := itoa_nn h2 (by omega)
  unfold entTxt
  split <;> simp only [List.length_append, List.length_cons, List.length_nil] <;> omega
theorem gd_last {l : List En} : ∀ n, gd l n = true → 0 ≤ lastT l n
  | 0, _ => Int.le_refl _
  | n + 1, hg => by
    unfold gd at hg
    rw [Bool.and_eq_true] at hg
    have h1 := gd_last n hg.1
    have h2 := hg.2
    unfold impl_Log_up.good at h2
    simp only [Bool.and_eq_true, decide_eq_true_eq] at h2
    show 0 ≤ (rd_T34 l (n : Int)).f0
    omega
theorem gd_ok {l : List En} : ∀ n, gd l n = true → ∀ i (h : i < l.length), i < n → okEnt l[i]
  | 0, _, i, _, h => absurd h (Nat.not_lt_zero _)
  | n + 1, hg, i, hl, hi => by
    unfold gd at hg
    rw [Bool.and_eq_true] at hg
    by_cases e : i = n
    · subst e
      have h1 := gd_last i hg.1
      have h2 := hg.2
      unfold impl_Log_up.good at h2
      simp only [Bool.and_eq_true, decide_eq_true_eq] at h2
      rw [rd_impl_Entry hl] at h2
      unfold okEnt
      omega
    · exact gd_ok n hg.1 i hl (by omega)
theorem validG_ok {l : List En} (h : validG l = true) : l.length ≤ 60 ∧ ∀ i (hi : i < l.length), okEnt l[i] := by
  unfold validG at h
  simp only [Bool.and_eq_true, decide_eq_true_eq] at h
  exact ⟨h.1.1, fun i hi => gd_ok _ h.1.2 i hi hi⟩
def logTxt (l : List En) : List UInt8 := l.flatMap entTxt
theorem implLine {x : En} (h : okEnt x) : impl_LogText.line x = some (bs (entTxt x)) := by
  obtain ⟨⟨h0, h1⟩, ⟨h2, h3⟩⟩ := h
  unfold impl_LogText.line
  rw [dec_impl_int h0 (by omega), dec_impl_int h2 (by omega)]
  simp only [Option.bind_some]
  rw [show (⟨#[32, 100, 111, 119, 110, 32]⟩ : ByteArray) = bs [32, 100, 111, 119, 110, 32] from rfl, show (⟨#[32, 117, 112, 32]⟩ : ByteArray) = bs [32, 117, 112, 32] from rfl, show (⟨#[10]⟩ : ByteArray) = bs [10] from rfl]
  unfold entTxt
  cases x.f2 <;> simp [bs_append]
theorem implLogTxt : ∀ (l : List En) (acc : List UInt8), (∀ i (hi : i < l.length), okEnt l[i]) → acc.length + 43 * l.length ≤ 1000000 → impl_LogText.l0 l (bs acc) = some (bs (acc ++ logTxt l))
  | [], acc, _, _ => by simp [impl_LogText.l0, logTxt]
  | x :: r, acc, hb, hl => by
    have hx : okEnt x := hb 0 (by simp)
    have hle := entTxt_le hx
    simp only [List.length_cons] at hl
    have key := implLogTxt r (acc ++ entTxt x) (fun i hi => hb (i + 1) (by simp; omega)) (by simp only [List.length_append]; omega)
    have hlog : logTxt (x :: r) = entTxt x ++ logTxt r := rfl
    simp only [impl_LogText.l0]
    rw [implLine hx]
    simp only [Option.bind_some]
    rw [if_pos (by rw [bs_size, bs_size]; omega), bs_append, key, hlog, List.append_assoc]
theorem impl_LogText_eq (l : List En) (hl : l.length ≤ 1048576) : impl_LogText.f l = some (bs (if validG l = true then logTxt l else [])) := by
  unfold impl_LogText.f
  rw [implValid_log hl]
  simp only [Option.bind_some]
  by_cases h : validG l = true
  · obtain ⟨h1, h2⟩ := validG_ok h
    rw [if_pos h, if_pos h, show (⟨#[]⟩ : ByteArray) = bs [] from rfl, implLogTxt l [] h2 (by simp; omega)]
    rfl
  · rw [if_neg h, if_neg h]
end Go.Proofs.YtmcfbnglocojkaaDoor.G.Pure
end

section
namespace Go.Proofs.YtmcfbnglocojkaaDoor.G.Pure
open Go.RowKit Go.Proofs.YtmcfbnglocojkaaDoor.G Go.Proofs.YtmcfbnglocojkaaDoorW.PrintWords Go.Proofs.YtmcfbnglocojkaaDoorW.PrintLast Go.Proofs.YtmcfbnglocojkaaDoorW.PrintMore
set_option linter.unusedVariables false
set_option linter.unusedSimpArgs false
def trim (l : List UInt8) : List UInt8 := if l.getLast? = some 10 then l.dropLast else l
theorem trim_line (p : List UInt8) : trim (p ++ [10]) = p := by simp [trim]
def unspl (c : UInt8) : List (List UInt8) → List UInt8
  | [] => []
  | [x] => x
  | x :: y :: r => x ++ c :: unspl c (y :: r)
theorem unspl_spl (c : UInt8) : ∀ l : List UInt8, unspl c (spl c l) = l
  | [] => rfl
  | b :: l => by
    have ih := unspl_spl c l
    unfold spl
    obtain ⟨x, r, e⟩ : ∃ x r, spl c l = x :: r := by
      cases e : spl c l with
      | nil => exact absurd e (spl_ne c l)
      | cons x r => exact ⟨x, r, rfl⟩
    rw [e] at ih ⊢
    by_cases h : b = c
    · rw [if_pos h, h]
      simp only [unspl, List.nil_append, ih]
    · rw [if_neg h]
      cases r with
      | nil => simp only [unspl] at ih ⊢; rw [ih]
      | cons y r => simp only [unspl, List.cons_append] at ih ⊢; rw [ih]
def entBody (x : En) : List UInt8 := Lib.itoa x.f0 ++ (if x.f2 = true then [32, 100, 111, 119, 110, 32] else [32, 117, 112, 32]) ++ Lib.itoa x.f1
theorem entTxt_body (x : En) : entTxt x = entBody x ++ [10] := rfl
theorem three (p q z l : List UInt8) (h : spl 32 l = [p, q, z]) : l = p ++ 32 :: (q ++ 32 :: z) := by
  have := unspl_spl 32 l
  rw [h] at this
  exact this.symm
theorem body_ne {x : En} (h0 : 0 ≤ x.f0) (h1 : 0 ≤ x.f1) : ∀ b ∈ entBody x, b ≠ 10 := fun b hb => by
  unfold entBody at hb
  have key : ∀ y : Int, 0 ≤ y → ∀ b ∈ Lib.itoa y, b ≠ 10 := fun y hy b hb e => by
    unfold Lib.itoa at hb
    rw [if_neg (by omega)] at hb
    obtain ⟨d, hd⟩ := from_digits _ 0 _ (digits_from y.toNat) b hb
    obtain ⟨h1, h2⟩ := byte_digit hd
    have h3 := ofNat_toNat h1
    rw [← h2, e] at h3
    have : (10 : UInt8).toNat = 10 := rfl
    omega
  rcases List.mem_append.1 hb with hb | hb
  · rcases List.mem_append.1 hb with hb | hb
    · exact key _ h0 b hb
    · intro e
      subst e
      split at hb <;> revert hb <;> decide
  · exact key _ h1 b hb
theorem spl_body {x : En} (h0 : 0 ≤ x.f0) (h1 : 0 ≤ x.f1) : spl 32 (entBody x) = [Lib.itoa x.f0, (if x.f2 = true then [100, 111, 119, 110] else [117, 112]), Lib.itoa x.f1] := by
  have e : entBody x = Lib.itoa x.f0 ++ 32 :: ((if x.f2 = true then [100, 111, 119, 110] else [117, 112]) ++ 32 :: Lib.itoa x.f1) := by
    unfold entBody
    cases x.f2 <;> simp
  rw [e, spl_hit 32 _ _ (fun b hb => (itoa_ne h0 b hb).1), spl_hit 32 _ _ (fun b hb e => by subst e; split at hb <;> revert hb <;> decide), spl_miss 32 _ (fun b hb => (itoa_ne h1 b hb).1)]
theorem spl_log : ∀ (g : List En), (∀ x ∈ g, okEnt x) → spl 10 (logTxt g) = g.map entBody ++ [[]]
  | [], _ => rfl
  | x :: g, h => by
    have hx := h x (by simp)
    have e : logTxt (x :: g) = entBody x ++ 10 :: logTxt g := by
      show entTxt x ++ logTxt g = _
      rw [entTxt_body, List.append_assoc]
      rfl
    rw [e, spl_hit 10 _ _ (body_ne hx.1.1 hx.2.1), spl_log g (fun y hy => h y (by simp [hy]))]
    rfl
theorem lines_log : ∀ (g : List En), (∀ x ∈ g, okEnt x) → impl_ReadLog.lines (logTxt g) = g.map entTxt
  | [], _ => rfl
  | x :: g, h => by
    have hx := h x (by simp)
    have e : logTxt (x :: g) = entBody x ++ 10 :: logTxt g := by
      show entTxt x ++ logTxt g = _
      rw [entTxt_body, List.append_assoc]
      rfl
    rw [e, impl_ReadLog.lines_hit _ _ (body_ne hx.1.1 hx.2.1), lines_log g (fun y hy => h y (by simp [hy]))]
    rfl
def lineS (l : List UInt8) : Option En := match spl 32 l with
  | [p, q, z] => if q = [117, 112] ∨ q = [100, 111, 119, 110] then (match numO p, numO z with
    | some a, some b => some ⟨(a : Int), (b : Int), decide (q = [100, 111, 119, 110])⟩
    | _, _ => none) else none
  | _ => none
def lineI (l : List UInt8) : Option En := match spl 32 l with
  | [p, q, z] => (match numO p, numO z with
    | some a, some b => if (a : Int) ≤ 100000 ∧ (b : Int) ≤ 9999 then some ⟨(a : Int), (b : Int), decide (q = [100, 111, 119, 110])⟩ else none
    | _, _ => none)
  | _ => none
def foldE (f : List UInt8 → Option En) : List (List UInt8) → List En → Option (List En)
  | [], acc => some acc
  | l :: r, acc => match f l with
    | some x => foldE f r (acc ++ [x])
    | none => none
theorem lineS_body {x : En} (h : okEnt x) : lineS (entBody x) = some x := by
  obtain ⟨⟨h0, h1⟩, ⟨h2, h3⟩⟩ := h
  unfold lineS
  rw [spl_body h0 h2]
  simp only
  rw [if_pos (by cases x.f2 <;> simp), numO_itoa h0 (by omega), numO_itoa h2 (by omega)]
  obtain ⟨a, b, c⟩ := x
  simp only at h0 h2 ⊢
  rw [Int.toNat_of_nonneg h0, Int.toNat_of_nonneg h2]
  cases c <;> rfl
theorem lineI_body {x : En} (h : okEnt x) : lineI (entBody x) = some x := by
  obtain ⟨⟨h0, h1⟩, ⟨h2, h3⟩⟩ := h
  unfold lineI
  rw [spl_body h0 h2]
  simp only
  rw [numO_itoa h0 (by omega), numO_itoa h2 (by omega)]
  obtain ⟨a, b, c⟩ := x
  simp only at h0 h1 h2 h3 ⊢
  rw [Int.toNat_of_nonneg h0, Int.toNat_of_nonneg h2, if_pos ⟨h1, h3⟩]
  cases c <;> rfl
theorem lineS_inv {l : List UInt8} {x : En} (h : lineS l = some x) : l = entBody x := by
  unfold lineS at h
  split at h
  · rename_i p q z e
    have hl := three p q z l e
    by_cases hq : q = [117, 112] ∨ q = [100, 111, 119, 110]
    · rw [if_pos hq] at h
      cases ha : numO p with
      | none => rw [ha] at h; simp at h
      | some a =>
        cases hb : numO z with
        | none => rw [ha, hb] at h; simp at h
        | some b =>
          rw [ha, hb] at h
          simp only [Option.some.injEq] at h
          subst h
          obtain ⟨e1, _⟩ := numO_some ha
          obtain ⟨e2, _⟩ := numO_some hb
          rw [hl, e1, e2]
          unfold entBody
          simp only [itoa_nat]
          rcases hq with rfl | rfl
          · simp
          · simp
    · rw [if_neg hq] at h
      cases h
  · cases h
theorem foldS_log : ∀ (g acc : List En), (∀ x ∈ g, okEnt x) → foldE lineS (g.map entBody) acc = some (acc ++ g)
  | [], acc, _ => by simp [foldE]
  | x :: g, acc, h => by
    simp only [List.map_cons, foldE]
    rw [lineS_body (h x (by simp))]
    simp only
    rw [foldS_log g _ (fun y hy => h y (by simp [hy]))]
    simp
theorem foldS_inv : ∀ (ls : List (List UInt8)) (acc g : List En), foldE lineS ls acc = some g → ∃ r, g = acc ++ r ∧ ls = r.map entBody
  | [], acc, g, h => ⟨[], by simp only [foldE, Option.some.injEq] at h; simp [h], rfl⟩
  | l :: r, acc, g, h => by
    simp only [foldE] at h
    cases hl : lineS l with
    | none => rw [hl] at h; cases h
    | some x =>
      rw [hl] at h
      obtain ⟨s, h1, h2⟩ := foldS_inv r _ g h
      exact ⟨x :: s, by rw [h1]; simp, by rw [h2, lineS_inv hl]; rfl⟩
theorem unspl_log : ∀ g : List En, unspl 10 (g.map entBody ++ [[]]) = logTxt g
  | [] => rfl
  | [x] => by
    show entBody x ++ 10 :: [] = entTxt x ++ []
    rw [entTxt_body]
    simp
  | x :: y :: g => by
    have ih := unspl_log (y :: g)
    simp only [List.map_cons, List.cons_append, unspl] at ih ⊢
    rw [ih]
    show _ = entTxt x ++ logTxt (y :: g)
    rw [entTxt_body]
    simp
theorem beq_dec (a b : List UInt8) : (a == b) = decide (a = b) := by
  by_cases h : a = b
  · rw [decide_eq_true h]
    exact beq_iff_eq.2 h
  · rw [decide_eq_false h]
    exact beq_eq_false_iff_ne.2 h
end Go.Proofs.YtmcfbnglocojkaaDoor.G.Pure
end

section
namespace Go.Proofs.YtmcfbnglocojkaaDoor.G.Pure
open Go.RowKit Go.Proofs.YtmcfbnglocojkaaDoor.G Go.Proofs.YtmcfbnglocojkaaDoorW.PrintWords Go.Proofs.YtmcfbnglocojkaaDoorW.PrintLast Go.Proofs.YtmcfbnglocojkaaDoorW.PrintMore
set_option linter.unusedVariables false
set_option linter.unusedSimpArgs false
theorem implSplit (c : UInt8) (l : List UInt8) (hl : l.length ≤ 1048576) : strings_Split.f (bs l) (bs [c]) = some ((spl c l).map bs) := by
  unfold strings_Split.f
  rw [bs_size, bs_size, if_pos (by omega), if_pos (by simp), split_eq c _ l rfl]
theorem spl_len (c : UInt8) : ∀ l : List UInt8, (spl c l).length ≤ l.length + 1 ∧ ∀ x ∈ spl c l, x.length ≤ l.length
  | [] => by simp [spl]
  | b :: l => by
    obtain ⟨h1, h2⟩ := spl_len c l
    unfold spl
    split
    · refine ⟨by simpa using h1, fun x hx => ?_⟩
      rcases List.mem_cons.1 hx with rfl | hx
      · simp
      · have := h2 x hx
        simp
        omega
    · cases e : spl c l with
      | nil => exact absurd e (spl_ne c l)
      | cons y r =>
        rw [e] at h1 h2
        simp only
        refine ⟨by simp at h1 ⊢; omega, fun x hx => ?_⟩
        rcases List.mem_cons.1 hx with rfl | hx
        · have := h2 y (by simp)
          simp
          omega
        · have := h2 x (by simp [hx])
          simp
          omega
end Go.Proofs.YtmcfbnglocojkaaDoor.G.Pure
end

section
namespace Go.Proofs.YtmcfbnglocojkaaDoor.G.Pure
open Go.RowKit Go.Proofs.YtmcfbnglocojkaaDoor.G Go.Proofs.YtmcfbnglocojkaaDoorW.PrintWords Go.Proofs.YtmcfbnglocojkaaDoorW.PrintLast Go.Proofs.YtmcfbnglocojkaaDoorW.PrintMore
set_option linter.unusedVariables false
set_option linter.unusedSimpArgs false
def foldI : List (List UInt8) → List En → Option (List En)
  | [], acc => some acc
  | l :: r, acc => if acc.length = 60 then none else match lineI (trim l) with
    | some x => foldI r (acc ++ [x])
    | none => none
def resI (l : List UInt8) : List En × Int := match foldI (impl_ReadLog.lines l) [] with
  | some g => if (if validG g = true then logTxt g else []) = l then (g, 0) else ([], 5)
  | none => ([], 5)
theorem toList_bs (l : List UInt8) : (bs l).toList = l := by rw [ByteArray.toList_eq]
theorem trimSuffix (l : List UInt8) (hl : l.length ≤ 1048576) : strings_TrimSuffix.f (bs l) (bs [10]) = some (bs (trim l)) := by
  unfold strings_TrimSuffix.f stringslite_TrimSuffix.f stringslite_HasSuffix.f
  rw [bs_size, bs_size, toList_bs]
  simp only [List.length_cons, List.length_nil]
  by_cases h : l = []
  · subst h
    rw [if_neg (by simp)]
    rfl
  · have hp : 0 < l.length := List.length_pos_iff.2 h
    have hw : wrap64 ((l.length : Int) - ((0 + 1 : Nat) : Int)) = ((l.length - 1 : Nat) : Int) := by rw [w64 (by omega) (by omega)]; omega
    rw [if_pos (by omega), hw, if_pos (by omega), if_pos (by omega), Int.toNat_natCast, bs_extract, toList_bs, List.take_of_length_le (Nat.le_refl _)]
    simp only [Option.bind_some]
    have hd : l.drop (l.length - 1) = [l.getLast h] := by
      have e := List.dropLast_concat_getLast h
      have e2 : l.drop (l.length - 1) = (l.dropLast ++ [l.getLast h]).drop l.dropLast.length := by rw [e, List.length_dropLast]
      rw [e2, List.drop_left]
    rw [hd]
    by_cases hb : l.getLast h = 10
    · rw [hb, if_pos (by simp), if_pos (by omega), if_pos (by omega), bs_extract, List.drop_zero, ← List.dropLast_eq_take]
      simp only [Option.bind_some]
      unfold trim
      rw [if_pos (by rw [List.getLast?_eq_some_getLast h, hb])]
    · rw [if_neg (by simpa using hb)]
      simp only [Option.bind_some]
      unfold trim
      rw [if_neg (by rw [List.getLast?_eq_some_getLast h]; simpa using hb)]
theorem trim_len (l : List UInt8) : (trim l).length ≤ l.length := by
  unfold trim
  split <;> simp
theorem lineI_no {l : List UInt8} (h : ¬ (spl 32 l).length = 3) : lineI l = none := by
  unfold lineI
  split
  · rename_i e
    rw [e] at h
    exact absurd rfl h
  · rfl
theorem implOne (l : List UInt8) (acc : List En) (hl : l.length ≤ 1048576) : impl_ReadLog.one l acc = some (if acc.length = 60 then none else lineI (trim l)) := by
  have ht := trim_len l
  unfold impl_ReadLog.one
  rw [show (⟨#[10]⟩ : ByteArray) = bs [10] from rfl, show (⟨#[32]⟩ : ByteArray) = bs [32] from rfl, trimSuffix l hl]
  simp only [Option.bind_some]
  rw [implSplit 32 _ (by omega)]
  simp only [Option.bind_some, List.length_map]
  have hlen := (spl_len 32 (trim l)).2
  by_cases h3 : (spl 32 (trim l)).length = 3
  · unfold lineI
    rw [if_pos h3]
    by_cases h60 : acc.length = 60
    · rw [if_pos h60, if_pos h60]
    · rw [if_neg h60, if_neg h60]
      obtain ⟨p, q, z, hpq⟩ : ∃ p q z, spl 32 (trim l) = [p, q, z] := by
        rcases e : spl 32 (trim l) with _ | ⟨p, _ | ⟨q, _ | ⟨z, _ | ⟨u, r⟩⟩⟩⟩ <;> rw [e] at h3 <;> simp at h3
        exact ⟨p, q, z, rfl⟩
      rw [hpq] at hlen ⊢
      have lp := hlen p (by simp)
      have lz := hlen z (by simp)
      have r0 : ([p, q, z].map bs).getD 0 ByteArray.empty = bs p := rfl
      have r1 : ([p, q, z].map bs).getD 1 ByteArray.empty = bs q := rfl
      have r2 : ([p, q, z].map bs).getD 2 ByteArray.empty = bs z := rfl
      rw [r0, r1, r2, implNumber p (by omega) 100000 (by omega), implNumber z (by omega) 9999 (by omega), toList_bs]
      simp only [Option.bind_some]
      cases numO p with
      | none => cases numO z <;> simp
      | some a =>
        cases numO z with
        | none => simp
        | some c =>
          simp only
          by_cases ha : (a : Int) ≤ 100000
          · by_cases hc : (c : Int) ≤ 9999
            · rw [if_pos ha, if_pos hc, if_pos ⟨rfl, rfl⟩, if_pos ⟨ha, hc⟩, beq_dec]
            · rw [if_pos ha, if_neg hc, if_neg (by simp), if_neg (fun h => hc h.2)]
          · rw [if_neg ha, if_neg (by simp), if_neg (fun h => ha h.1)]
  · rw [if_neg h3]
    rw [lineI_no h3]
    simp
theorem implRounds : ∀ (ls : List (List UInt8)) (acc : List En), (∀ x ∈ ls, x.length ≤ 1048576) → impl_ReadLog.l0 ls acc = some (foldI ls acc)
  | [], _, _ => rfl
  | l :: r, acc, h => by
    simp only [impl_ReadLog.l0, foldI]
    rw [implOne l acc (h l (by simp))]
    simp only [Option.bind_some]
    by_cases h60 : acc.length = 60
    · rw [if_pos h60, if_pos h60]
    · rw [if_neg h60, if_neg h60]
      cases lineI (trim l) with
      | none => rfl
      | some x => exact implRounds r _ (fun y hy => h y (by simp [hy]))
theorem foldI_len : ∀ (ls : List (List UInt8)) (acc g : List En), foldI ls acc = some g → acc.length ≤ 60 → g.length ≤ 60
  | [], acc, g, h, ha => by
    simp only [foldI, Option.some.injEq] at h
    rw [← h]
    exact ha
  | l :: r, acc, g, h, ha => by
    simp only [foldI] at h
    by_cases h60 : acc.length = 60
    · rw [if_pos h60] at h
      cases h
    · rw [if_neg h60] at h
      cases hl : lineI (trim l) with
      | none => rw [hl] at h; cases h
      | some x =>
        rw [hl] at h
        exact foldI_len r _ g h (by simp; omega)
theorem lines_len : ∀ (l : List UInt8), ∀ x ∈ impl_ReadLog.lines l, x.length ≤ l.length
  | [], x, hx => by simp [impl_ReadLog.lines] at hx
  | b :: l, x, hx => by
    have ih := lines_len l
    unfold impl_ReadLog.lines at hx
    by_cases h : b = 10
    · rw [if_pos h] at hx
      rcases List.mem_cons.1 hx with rfl | hx
      · simp
      · have := ih x hx
        simp
        omega
    · rw [if_neg h] at hx
      cases e : impl_ReadLog.lines l with
      | nil =>
        rw [e] at hx
        simp only [List.mem_singleton] at hx
        subst hx
        simp
      | cons y r =>
        rw [e] at hx ih
        rcases List.mem_cons.1 hx with rfl | hx
        · have := ih y (by simp)
          simp
          omega
        · have := ih x (by simp [hx])
          simp
          omega
theorem implReadLog (l : List UInt8) (hl : l.length ≤ 1048576) : impl_ReadLog.f (bs l) = some (resI l) := by
  have hd : (bs l).data.toList = l := rfl
  unfold impl_ReadLog.f resI
  rw [bs_size, if_pos (by omega), hd, implRounds _ _ (fun x hx => by have := lines_len l x hx; omega)]
  simp only [Option.bind_some]
  cases hf : foldI (impl_ReadLog.lines l) [] with
  | none => rfl
  | some g =>
    simp only
    have := foldI_len _ _ _ hf (by simp)
    rw [impl_LogText_eq g (by omega)]
    simp only [Option.bind_some]
    rw [toList_bs, toList_bs]
    by_cases e : (if validG g = true then logTxt g else []) = l
    · rw [if_pos e, if_pos e]
    · rw [if_neg e, if_neg e]
end Go.Proofs.YtmcfbnglocojkaaDoor.G.Pure
end

section
namespace Go.Proofs.YtmcfbnglocojkaaDoor.G.Pure
open Go.RowKit Go.Proofs.YtmcfbnglocojkaaDoor.G Go.Proofs.YtmcfbnglocojkaaDoorW.PrintWords Go.Proofs.YtmcfbnglocojkaaDoorW.PrintLast Go.Proofs.YtmcfbnglocojkaaDoorW.PrintMore
set_option linter.unusedVariables false
set_option linter.unusedSimpArgs false
theorem bt_eq {l : List UInt8} {i : Nat} (h : i < l.length) : bt (bs l) (i : Int) = (l[i].toNat : Int) := by
  simp only [bt, bs, Int.toNat_natCast]
  have h1 : i < (bs l).size := by rw [bs_size]; exact h
  first | (rw [dif_pos h1]; rfl) | (simp [h1]; rfl) | (simp [h1])
def numR (l : List UInt8) : Int × Bool := match numO l with | some n => ((n : Int), true) | none => (0, false)
theorem decFrom_take_ {l : List UInt8} {i : Nat} (h : i < l.length) (acc : Nat) : Lib.decFrom acc (l.take (i + 1)) = (Lib.decFrom acc (l.take i)).bind fun m => (Lib.digitVal l[i]).map fun d => m * 10 + d := by
  rw [List.take_succ_eq_append_getElem h, decFrom_snoc]
theorem decFrom_bad {l : List UInt8} {b : UInt8} (hb : b ∈ l) (h : Lib.digitVal b = none) : ∀ acc, Lib.decFrom acc l = none := by
  induction l with
  | nil => simp at hb
  | cons a l ih =>
    intro acc
    simp only [Lib.decFrom]
    rcases List.mem_cons.1 hb with rfl | hb
    · rw [h]
    · cases Lib.digitVal a with
      | none => rfl
      | some d => exact ih hb _
end Go.Proofs.YtmcfbnglocojkaaDoor.G.Pure
end

section
namespace Go.Proofs.YtmcfbnglocojkaaDoor.G.Pure
open Go.RowKit Go.Proofs.YtmcfbnglocojkaaDoor.G Go.Proofs.YtmcfbnglocojkaaDoorW.PrintWords Go.Proofs.YtmcfbnglocojkaaDoorW.PrintLast Go.Proofs.YtmcfbnglocojkaaDoorW.PrintMore
set_option linter.unusedVariables false
set_option linter.unusedSimpArgs false
theorem specNumber (l : List UInt8) (K : Nat) (hK : 20 ≤ K) : spec_l01Number.f K (bs l) = some (numR l) := by
  have hempty : (bs l).toList = l := by rw [ByteArray.toList_eq]
  have hj : ∀ k, spec_l01Number.j0 (k + 1) (bs l) true = some (0, false) := fun k => by simp only [spec_l01Number.j0]; rfl
  obtain ⟨k, rfl⟩ : ∃ k, K = k + 1 := ⟨K - 1, by omega⟩
  unfold spec_l01Number.f numR numO
  rw [hempty, bs_size]
  by_cases h1 : l = []
  · rw [if_pos h1, if_pos h1, hj]
  · rw [if_neg h1, if_neg h1]
    by_cases h2 : 9 < l.length
    · rw [if_pos (by omega), if_pos h2, hj]
    · have hl : 0 < l.length := List.length_pos_iff.2 h1
      rw [if_neg (by omega), if_neg h2, if_pos (by omega)]
      have hb0 : bt (bs l) 0 = (l[0].toNat : Int) := bt_eq (i := 0) hl
      have hh : l.head? = some l[0] := by
        cases l with
        | nil => exact absurd rfl h1
        | cons a r => rfl
      have hjf : spec_l01Number.j0 (k + 1) (bs l) false = spec_l01Number.l0 k (bs l) 0 0 := by simp only [spec_l01Number.j0]; rfl
      have hloop : spec_l01Number.l0 k (bs l) 0 0 = some (match Lib.decFrom 0 l with | some n => ((n : Int), true) | none => (0, false)) := by
        obtain ⟨r, hr, h⟩ := loop_inv (fun k (s : Int × Int) => spec_l01Number.l0 k (bs l) s.1 s.2) l.length (fun i s => s.2 = (i : Int) ∧ ∃ m : Nat, s.1 = (m : Int) ∧ Lib.decFrom 0 (l.take i) = some m) (fun r => r = (match Lib.decFrom 0 l with | some n => ((n : Int), true) | none => (0, false)))
          (fun k i s hi ⟨g1, m, g2, g3⟩ => by
            obtain ⟨a, x⟩ := s
            simp only at g1 g2
            subst g1 g2
            have hm := Lib.decFrom_lt _ _ _ g3
            have h10 : 10 ^ (l.take i).length ≤ 10 ^ 9 := Nat.pow_le_pow_right (by omega) (by rw [List.length_take]; omega)
            simp only [spec_l01Number.l0]
            rw [bs_size, if_pos (by omega), if_pos (by omega), bt_eq hi]
            by_cases hd : 48 ≤ l[i].toNat ∧ l[i].toNat ≤ 57
            · have hdv : Lib.digitVal l[i] = some (l[i].toNat - 48) := by unfold Lib.digitVal; rw [if_pos hd]
              rw [if_neg (by omega), if_neg (by omega), w64 (n := 10 * (m : Int)) (by omega) (by omega), w64 (n := (i : Int) + 1) (by omega) (by omega)]
              refine .inl ⟨(((m * 10 + (l[i].toNat - 48) : Nat) : Int), ((i + 1 : Nat) : Int)), ⟨rfl, _, rfl, ?_⟩, ?_⟩
              · rw [decFrom_take_ hi, g3, hdv]
                rfl
              · rw [w64 (by omega) (by omega), show 10 * (m : Int) + ((l[i].toNat : Int) - 48) % 256 = ((m * 10 + (l[i].toNat - 48) : Nat) : Int) by omega]
                rfl
            · have hdv : Lib.digitVal l[i] = none := by unfold Lib.digitVal; rw [if_neg hd]
              refine .inr ⟨(0, false), ?_, ?_⟩
              · rw [decFrom_bad (List.getElem_mem hi) hdv]
              · by_cases h48 : (l[i].toNat : Int) < 48
                · rw [if_pos h48]
                · rw [if_neg h48, if_pos (by omega)])
          (fun k s ⟨g1, m, g2, g3⟩ => by
            obtain ⟨a, x⟩ := s
            simp only at g1 g2
            subst g1 g2
            refine ⟨_, rfl, ?_⟩
            rw [List.take_of_length_le (Nat.le_refl _)] at g3
            simp only [spec_l01Number.l0]
            rw [bs_size, if_neg (by omega), g3]) k (0, 0) ⟨rfl, 0, rfl, rfl⟩ (by omega)
        rw [h, hr]
      by_cases h3 : l[0].toNat = 48
      · have e0 : l[0] = 48 := UInt8.toNat_inj.1 h3
        rw [hb0, if_pos (by omega)]
        by_cases h4 : 1 < l.length
        · rw [decide_eq_true (by omega), hj, if_pos ⟨by rw [hh, e0], h4⟩]
        · rw [decide_eq_false (by omega), hjf, hloop, if_neg (fun h => h4 h.2)]
          try (cases Lib.decFrom 0 l <;> rfl)
      · rw [hb0, if_neg (by omega), hjf, hloop, if_neg (fun h => h3 (by rw [hh] at h; have := Option.some.inj h.1; rw [this]; rfl))]
        try (cases Lib.decFrom 0 l <;> rfl)
end Go.Proofs.YtmcfbnglocojkaaDoor.G.Pure
end

section
namespace Go.Proofs.YtmcfbnglocojkaaDoor.G.Pure
open Go.RowKit Go.Proofs.YtmcfbnglocojkaaDoor.G Go.Proofs.YtmcfbnglocojkaaDoorW.PrintWords Go.Proofs.YtmcfbnglocojkaaDoorW.PrintLast Go.Proofs.YtmcfbnglocojkaaDoorW.PrintMore
set_option linter.unusedVariables false
set_option linter.unusedSimpArgs false
theorem specSplit (c : UInt8) (l : List UInt8) (hl : l.length ≤ 1048576) (K : Nat) (hK : l.length < K) : spec_l01Split.f K (bs l) (c.toNat : Int) = some ((spl c l).map bs) := by
  unfold spec_l01Split.f
  obtain ⟨r, hr, h⟩ := loop_inv (fun k (s : List ByteArray × Int × Int) => spec_l01Split.l0 k (bs l) (c.toNat : Int) s.1 s.2.1 s.2.2) l.length
    (fun i s => s.2.2 = (i : Int) ∧ ∃ b : Nat, s.2.1 = (b : Int) ∧ b ≤ i ∧ s.1.length ≤ i ∧ (∀ x ∈ (l.take i).drop b, x ≠ c) ∧ (spl c l).map bs = s.1 ++ (spl c (l.drop b)).map bs)
    (fun r => r = (spl c l).map bs)
    (fun k i s hi ⟨g1, b, g2, g3, g4, g5, g6⟩ => by
      obtain ⟨acc, x, y⟩ := s
      simp only at g1 g2 g4 g6
      subst g1 g2
      simp only [spec_l01Split.l0]
      rw [bs_size, if_pos (by omega), if_pos (by omega), bt_eq hi]
      by_cases h : l[i] = c
      · rw [if_pos (by rw [h]), if_pos (by omega), if_pos (by omega), if_pos (by omega), if_pos (by omega), w64 (by omega) (by omega)]
        have he : (bs l).extract ((b : Int)).toNat ((i : Int)).toNat = bs ((l.take i).drop b) := by
          rw [Int.toNat_natCast, Int.toNat_natCast, bs_extract]
        refine .inl ⟨(acc ++ [bs ((l.take i).drop b)], ((i + 1 : Nat) : Int), ((i + 1 : Nat) : Int)), ⟨rfl, i + 1, rfl, Nat.le_refl _, by simp; omega, ?_, ?_⟩, ?_⟩
        · intro x hx
          rw [List.drop_eq_nil_of_le (by rw [List.length_take]; omega)] at hx
          simp at hx
        · have e1 : l.drop b = (l.take i).drop b ++ c :: l.drop (i + 1) := by
            have e2 : l = l.take i ++ c :: l.drop (i + 1) := by
              rw [← h, ← List.drop_eq_getElem_cons hi, List.take_append_drop]
            conv => lhs; rw [e2]
            rw [List.drop_append_of_le_length (by rw [List.length_take]; omega)]
          rw [g6, e1, spl_hit c _ _ g5]
          simp
        · rw [he]
          rfl
      · have hne : ¬ (l[i].toNat : Int) = (c.toNat : Int) := fun e => h (UInt8.toNat_inj.1 (by omega))
        rw [if_neg hne, w64 (by omega) (by omega)]
        refine .inl ⟨(acc, (b : Int), ((i + 1 : Nat) : Int)), ⟨rfl, b, rfl, by omega, Nat.le_succ_of_le g4, ?_, g6⟩, rfl⟩
        intro x hx
        rw [List.take_succ_eq_append_getElem hi, List.drop_append_of_le_length (by rw [List.length_take]; omega)] at hx
        rcases List.mem_append.1 hx with hx | hx
        · exact g5 x hx
        · rw [List.mem_singleton.1 hx]
          exact h)
    (fun k s ⟨g1, b, g2, g3, g4, g5, g6⟩ => by
      obtain ⟨acc, x, y⟩ := s
      simp only at g1 g2 g4 g6
      subst g1 g2
      refine ⟨_, rfl, ?_⟩
      simp only [spec_l01Split.l0]
      have he : (bs l).extract ((b : Int)).toNat (bs l).size = bs (l.drop b) := by
        rw [Int.toNat_natCast, bs_extract, bs_size, List.take_of_length_le (Nat.le_refl _)]
      rw [List.take_of_length_le (Nat.le_refl _)] at g5
      rw [he, bs_size, if_neg (by omega), if_pos (by omega), if_pos (by omega), if_pos (by omega), g6, spl_miss c _ g5]
      rfl) K ([], 0, 0) ⟨rfl, 0, rfl, by omega, by simp, by simp, by simp⟩ hK
  rw [h, hr]
end Go.Proofs.YtmcfbnglocojkaaDoor.G.Pure
end

section
namespace Go.Proofs.YtmcfbnglocojkaaDoor.G.Pure
open Go.RowKit Go.Proofs.YtmcfbnglocojkaaDoor.G Go.Proofs.YtmcfbnglocojkaaDoorW.PrintWords Go.Proofs.YtmcfbnglocojkaaDoorW.PrintLast Go.Proofs.YtmcfbnglocojkaaDoorW.PrintMore
set_option linter.unusedVariables false
set_option linter.unusedSimpArgs false
def resS (l : List UInt8) : List En × Int := if (spl 10 l).getLast (spl_ne 10 l) = [] ∧ (spl 10 l).length ≤ 61 then (match foldE lineS (spl 10 l).dropLast [] with
  | some g => if validG g = true then (g, 0) else ([], 5)
  | none => ([], 5)) else ([], 5)
theorem rdB' {ls : List (List UInt8)} {i : Nat} (h : i < ls.length) : rdOf ByteArray.empty (ls.map bs) (i : Int) = bs ls[i] := by
  simp [rdOf, List.getD_eq_getElem?_getD, List.getElem?_eq_getElem h]
theorem lineS_three {l p q z : List UInt8} (h : spl 32 l = [p, q, z]) : lineS l = if q = [117, 112] ∨ q = [100, 111, 119, 110] then (match numO p, numO z with
    | some a, some b => some (⟨(a : Int), (b : Int), decide (q = [100, 111, 119, 110])⟩ : En)
    | _, _ => none) else none := by
  unfold lineS
  rw [h]
  all_goals (simp only; split <;> (first | rfl | (cases numO p <;> cases numO z <;> rfl)))
theorem specRounds (ls : List (List UInt8)) (n : Nat) (hn : n ≤ ls.length) (h61 : ls.length ≤ 1048577) (h60 : n ≤ 60) (hw : ∀ x ∈ ls, x.length ≤ 1048576) : ∀ (d i k : Nat) (acc : List En), i + d = n → 2 * d + 2200000 < k → acc.length = i →
    spec_ReadLog.l0 k (ls.map bs) (n : Int) acc (i : Int) = some (match foldE lineS ((ls.take n).drop i) acc with
      | some g => if validG g = true then (g, 0) else ([], 5)
      | none => ([], 5)) := by
  intro d
  induction d with
  | zero =>
    intro i k acc hi hk ha
    obtain ⟨k, rfl⟩ : ∃ m, k = m + 1 := ⟨k - 1, by omega⟩
    rw [List.drop_eq_nil_of_le (by rw [List.length_take]; omega)]
    simp only [spec_ReadLog.l0, foldE]
    rw [if_neg (by omega), specOk_log (by omega)]
    simp only [Option.bind_some]
    cases validG acc <;> rfl
  | succ d ih =>
    intro i k acc hi hk ha
    obtain ⟨k, rfl⟩ : ∃ m, k = m + 2 := ⟨k - 2, by omega⟩
    have hil : i < ls.length := by omega
    have hx := hw _ (List.getElem_mem hil)
    have hd : (ls.take n).drop i = ls[i] :: (ls.take n).drop (i + 1) := by
      rw [List.drop_eq_getElem_cons (by rw [List.length_take]; omega)]
      simp
    rw [hd]
    simp only [spec_ReadLog.l0, foldE]
    rw [if_pos (by omega), if_pos (by omega), if_pos (by rw [List.length_map]; omega), rdB' hil, show (32 : Int) = (((32 : UInt8)).toNat : Int) from rfl, specSplit 32 _ hx (k + 1) (by omega)]
    simp only [Option.bind_some, List.length_map]
    by_cases h3 : (spl 32 ls[i]).length = 3
    · obtain ⟨p, q, z, hpq⟩ : ∃ p q z, spl 32 ls[i] = [p, q, z] := by
        rcases e : spl 32 ls[i] with _ | ⟨p, _ | ⟨q, _ | ⟨z, _ | ⟨u, r⟩⟩⟩⟩ <;> rw [e] at h3 <;> simp at h3
        exact ⟨p, q, z, rfl⟩
      have r0 : rdOf ByteArray.empty ([p, q, z].map bs) 0 = bs p := rfl
      have r1 : rdOf ByteArray.empty ([p, q, z].map bs) 1 = bs q := rfl
      have r2 : rdOf ByteArray.empty ([p, q, z].map bs) 2 = bs z := rfl
      have eq_ : (bs q).toList = q := by rw [ByteArray.toList_eq]
      rw [hpq]
      rw [if_pos (by simp), if_pos (by simp), r1, eq_]
      have hj : ∀ b, spec_ReadLog.j2 (k + 1) (ls.map bs) (n : Int) acc (i : Int) ([p, q, z].map bs) b = (if b = true then some ([], 5) else (match numO p, numO z with
          | some a, some c => spec_ReadLog.l0 k (ls.map bs) (n : Int) (acc ++ [⟨(a : Int), (c : Int), q == [100, 111, 119, 110]⟩]) ((i + 1 : Nat) : Int)
          | _, _ => some ([], 5))) := fun b => by
        simp only [spec_ReadLog.j2]
        by_cases hb : b = true
        · rw [if_pos hb, if_pos hb]
        · rw [if_neg hb, if_neg hb, if_pos (by simp), r0, specNumber p k (by omega)]
          simp only [Option.bind_some]
          rw [if_pos (by simp), r2, specNumber z k (by omega)]
          simp only [Option.bind_some]
          unfold numR
          cases numO p with
          | none => cases numO z <;> simp
          | some a =>
            cases numO z with
            | none => simp
            | some c =>
              simp only [if_true]
              rw [if_pos (by simp), if_pos (by omega), r1, eq_, w64 (by omega) (by omega)]
              rfl
      rw [lineS_three hpq]
      by_cases hu : q = [117, 112]
      · rw [if_pos hu, if_pos (.inl hu), hj, if_neg (by simp)]
        cases numO p with
        | none => rfl
        | some a =>
          cases numO z with
          | none => rfl
          | some c =>
            simp only
            rw [ih (i + 1) k _ (by omega) (by omega) (by simp; omega)]
            rw [beq_dec]
      · rw [if_neg hu, hj]
        by_cases hdn : q = [100, 111, 119, 110]
        · rw [if_neg (by simp [hdn]), if_pos (.inr hdn)]
          cases numO p with
          | none => rfl
          | some a =>
            cases numO z with
            | none => rfl
            | some c =>
              simp only
              rw [ih (i + 1) k _ (by omega) (by omega) (by simp; omega)]
              rw [beq_dec]
        · rw [if_pos (by simp [hdn]), if_neg (by simp [hu, hdn])]
    · rw [if_neg (by omega)]
      have : lineS ls[i] = none := by
        unfold lineS
        split
        · rename_i e
          rw [e] at h3
          exact absurd rfl h3
        · rfl
      rw [this]
      simp only [spec_ReadLog.j2]
      simp
theorem specReadLog (l : List UInt8) (hl : l.length ≤ 1048576) (k : Nat) (hk : 5000000 ≤ k) : spec_ReadLog.f k (bs l) = some (resS l) := by
  obtain ⟨k, rfl⟩ : ∃ m, k = m + 1 := ⟨k - 1, by omega⟩
  obtain ⟨h1, h2⟩ := spl_len 10 l
  have hne := spl_ne 10 l
  have hpos : 0 < (spl 10 l).length := List.length_pos_iff.2 hne
  unfold spec_ReadLog.f
  rw [show (10 : Int) = (((10 : UInt8)).toNat : Int) from rfl, specSplit 10 l hl (k + 1) (by omega)]
  simp only [Option.bind_some, List.length_map]
  have hw : wrap64 (((spl 10 l).length : Int) - 1) = (((spl 10 l).length - 1 : Nat) : Int) := by rw [w64 (by omega) (by omega)]; omega
  rw [hw, if_pos (by omega), if_pos (by omega), rdB' (by omega)]
  have elast : (spl 10 l)[(spl 10 l).length - 1] = (spl 10 l).getLast hne := (List.getLast_eq_getElem hne).symm
  have et : (bs (spl 10 l)[(spl 10 l).length - 1]).toList = (spl 10 l).getLast hne := by rw [ByteArray.toList_eq]; exact elast
  rw [et]
  unfold resS
  by_cases hz : (spl 10 l).getLast hne = []
  · rw [if_pos hz]
    by_cases h61 : (spl 10 l).length ≤ 61
    · rw [if_pos ⟨hz, h61⟩]
      simp only [spec_ReadLog.j0]
      rw [if_neg (by simp; omega), show (0 : Int) = ((0 : Nat) : Int) from rfl, specRounds (spl 10 l) ((spl 10 l).length - 1) (by omega) (by omega) (by omega) (fun x hx => by have := h2 x hx; omega) ((spl 10 l).length - 1) 0 k [] (by omega) (by omega) rfl]
      rw [List.drop_zero, List.dropLast_eq_take]
      try (cases foldE lineS (List.take ((spl 10 l).length - 1) (spl 10 l)) [] <;> rfl)
    · rw [if_neg (fun h => h61 h.2)]
      simp only [spec_ReadLog.j0]
      rw [if_pos (by simp; omega)]
  · rw [if_neg hz, if_neg (fun h => hz h.1)]
    simp [spec_ReadLog.j0]
end Go.Proofs.YtmcfbnglocojkaaDoor.G.Pure
end

section
namespace Go.Proofs.YtmcfbnglocojkaaDoor.G.Pure
open Go.RowKit Go.Proofs.YtmcfbnglocojkaaDoor.G Go.Proofs.YtmcfbnglocojkaaDoorW.PrintWords Go.Proofs.YtmcfbnglocojkaaDoorW.PrintLast Go.Proofs.YtmcfbnglocojkaaDoorW.PrintMore
set_option linter.unusedVariables false
set_option linter.unusedSimpArgs false
theorem okEnts {g : List En} (h : validG g = true) : g.length ≤ 60 ∧ ∀ x ∈ g, okEnt x := by
  obtain ⟨h1, h2⟩ := validG_ok h
  exact ⟨h1, fun x hx => by obtain ⟨i, hi, rfl⟩ := List.mem_iff_getElem.1 hx; exact h2 i hi⟩
theorem resS_log {g : List En} (h : validG g = true) : resS (logTxt g) = (g, 0) := by
  obtain ⟨h1, h2⟩ := okEnts h
  have e := spl_log g h2
  unfold resS
  have e1 : (spl 10 (logTxt g)).getLast (spl_ne 10 _) = [] := by
    simp only [e]
    simp
  have e2 : (spl 10 (logTxt g)).dropLast = g.map entBody := by
    rw [e]
    simp
  rw [if_pos ⟨e1, by rw [e]; simp; omega⟩, e2, foldS_log g [] h2]
  simp [h]
theorem foldI_log : ∀ (g acc : List En), (∀ x ∈ g, okEnt x) → acc.length + g.length ≤ 60 → foldI (g.map entTxt) acc = some (acc ++ g)
  | [], acc, _, _ => by simp [foldI]
  | x :: g, acc, h, hn => by
    simp only [List.length_cons] at hn
    simp only [List.map_cons, foldI]
    rw [if_neg (by omega), entTxt_body, trim_line, lineI_body (h x (by simp))]
    simp only
    rw [foldI_log g _ (fun y hy => h y (by simp [hy])) (by simp; omega)]
    simp
theorem resI_log {g : List En} (h : validG g = true) : resI (logTxt g) = (g, 0) := by
  obtain ⟨h1, h2⟩ := okEnts h
  unfold resI
  rw [lines_log g h2, foldI_log g [] h2 (by simpa using h1)]
  simp [h]
theorem resS_inv (l : List UInt8) : resS l = ([], 5) ∨ ∃ g, validG g = true ∧ l = logTxt g := by
  unfold resS
  by_cases h : (spl 10 l).getLast (spl_ne 10 l) = [] ∧ (spl 10 l).length ≤ 61
  · rw [if_pos h]
    cases hf : foldE lineS (spl 10 l).dropLast [] with
    | none => exact .inl rfl
    | some g =>
      simp only
      by_cases hv : validG g = true
      · refine .inr ⟨g, hv, ?_⟩
        obtain ⟨r, e1, e2⟩ := foldS_inv _ _ _ hf
        simp only [List.nil_append] at e1
        subst e1
        have e3 : spl 10 l = g.map entBody ++ [[]] := by
          rw [← e2, ← h.1]
          exact (List.dropLast_concat_getLast (spl_ne 10 l)).symm
        rw [← unspl_spl 10 l, e3, unspl_log]
      · rw [if_neg hv]
        exact .inl rfl
  · rw [if_neg h]
    exact .inl rfl
theorem resI_inv (l : List UInt8) : resI l = ([], 5) ∨ ∃ g, validG g = true ∧ l = logTxt g := by
  unfold resI
  cases hf : foldI (impl_ReadLog.lines l) [] with
  | none => exact .inl rfl
  | some g =>
    simp only
    by_cases hv : validG g = true
    · rw [if_pos hv]
      by_cases e : logTxt g = l
      · exact .inr ⟨g, hv, e.symm⟩
      · rw [if_neg e]
        exact .inl rfl
    · rw [if_neg hv]
      by_cases e : [] = l
      · subst e
        simp only [impl_ReadLog.lines, foldI, Option.some.injEq] at hf
        subst hf
        exact absurd (by rfl) hv
      · rw [if_neg e]
        exact .inl rfl
theorem res_both (l : List UInt8) : resS l = resI l := by
  by_cases h : ∃ g, validG g = true ∧ l = logTxt g
  · obtain ⟨g, hv, rfl⟩ := h
    rw [resS_log hv, resI_log hv]
  · rcases resS_inv l with h1 | h1
    · rcases resI_inv l with h2 | h2
      · rw [h1, h2]
      · exact absurd h2 h
    · exact absurd h1 h
theorem resI_len (l : List UInt8) : (resI l).1.length ≤ 60 := by
  rcases resI_inv l with h | ⟨g, hv, rfl⟩
  · rw [h]
    simp
  · rw [resI_log hv]
    exact (okEnts hv).1
end Go.Proofs.YtmcfbnglocojkaaDoor.G.Pure
end

section
namespace Go.Proofs.YtmcfbnglocojkaaDoor.G.Pure
open Go.RowKit Go.Proofs.YtmcfbnglocojkaaDoor.G Go.Proofs.YtmcfbnglocojkaaDoorW.PrintWords Go.Proofs.YtmcfbnglocojkaaDoorW.PrintLast Go.Proofs.YtmcfbnglocojkaaDoorW.PrintMore
set_option linter.unusedVariables false
set_option linter.unusedSimpArgs false
def markG (i : Nat) : En := ⟨1 + 3 * (i : Int), 1 + 3 * (i : Int) + 1, Int.tmod (1 + 3 * (i : Int) + 2) 3 == 0⟩
end Go.Proofs.YtmcfbnglocojkaaDoor.G.Pure
end

section
namespace Go.Proofs.YtmcfbnglocojkaaDoor.G.Pure
open Go.RowKit Go.Proofs.YtmcfbnglocojkaaDoor.G Go.Proofs.YtmcfbnglocojkaaDoorW.PrintWords Go.Proofs.YtmcfbnglocojkaaDoorW.PrintLast Go.Proofs.YtmcfbnglocojkaaDoorW.PrintMore
set_option linter.unusedVariables false
set_option linter.unusedSimpArgs false
theorem markLog_held (k : Nat) (a : List En) (hl : a.length ≤ 1048576) (hk : a.length < k) : ∃ l m, laws_markLog.f k a 1 = some (m, l) ∧ (∀ k', a.length < k' → laws_heldLog.f k' l 1 = some m) ∧ 0 ≤ m := by
  obtain ⟨r, ⟨h1, h2, h3⟩, h⟩ := loop_inv (fun k (s : List En × Int × Int) => laws_markLog.l0 k s.1 s.2.1 s.2.2) a.length
    (fun i s => s.2.2 = (i : Int) ∧ s.2.1 = 1 + 3 * (i : Int) ∧ s.1.length = a.length ∧ ∀ j (h : j < s.1.length), j < i → s.1[j] = markG j)
    (fun r => r.1 = 1 + 3 * (a.length : Int) ∧ r.2.length = a.length ∧ ∀ j (h : j < r.2.length), r.2[j] = markG j)
    (fun k i s hi ⟨h1, h2, h3, h4⟩ => by
      obtain ⟨acc, m, x⟩ := s
      simp only at h1 h2 h3 h4
      subst h1 h2
      refine .inl ⟨(acc.set i (markG i), 1 + 3 * ((i + 1 : Nat) : Int), ((i + 1 : Nat) : Int)), ⟨rfl, rfl, by simpa using h3, fun j hj hji => ?_⟩, ?_⟩
      · simp only [List.getElem_set]
        split
        · rename_i e; subst e; rfl
        · simp only [List.length_set] at hj
          exact h4 j hj (by omega)
      · have hia : i < acc.length := by omega
        simp only [laws_markLog.l0]
        rw [if_pos (by omega), if_pos (by omega)]
        simp only [Option.bind_some, Int.toNat_natCast]
        rw [w64 (n := 1 + 3 * (i : Int) + 1) (by omega) (by omega), w64 (n := 1 + 3 * (i : Int) + 1 + 1) (by omega) (by omega), w64 (n := 1 + 3 * (i : Int) + 1 + 1 + 1) (by omega) (by omega), w64 (n := (i : Int) + 1) (by omega) (by omega)]
        simp only [rd_set_Entry, hia, List.set_set, List.length_set]
        rw [show 1 + 3 * (i : Int) + 1 + 1 + 1 = 1 + 3 * ((i + 1 : Nat) : Int) by omega, show 1 + 3 * (i : Int) + 1 + 1 = 1 + 3 * (i : Int) + 2 by omega]
        rfl)
    (fun k s ⟨h1, h2, h3, h4⟩ => by
      obtain ⟨acc, m, x⟩ := s
      simp only at h1 h2 h3 h4
      subst h1 h2
      refine ⟨(1 + 3 * (a.length : Int), acc), ⟨rfl, h3, fun j hj => h4 j hj (by rw [← h3]; exact hj)⟩, ?_⟩
      simp only [laws_markLog.l0]
      rw [if_neg (by omega)]) k (a, 1, 0) ⟨rfl, rfl, rfl, fun j _ h => absurd h (Nat.not_lt_zero _)⟩ hk
  obtain ⟨m, l⟩ := r
  simp only at h1 h2 h3
  refine ⟨l, m, h, fun k' hk' => ?_, by omega⟩
  obtain ⟨r, hr, h'⟩ := loop_inv (fun k (s : Int × Int) => laws_heldLog.l0 k l s.1 s.2) l.length (fun i s => s.2 = (i : Int) ∧ s.1 = 1 + 3 * (i : Int)) (fun r => r = m)
    (fun k i s hi ⟨g1, g2⟩ => by
      obtain ⟨m', x⟩ := s
      simp only at g1 g2
      subst g1 g2
      refine .inl ⟨(1 + 3 * ((i + 1 : Nat) : Int), ((i + 1 : Nat) : Int)), ⟨rfl, rfl⟩, ?_⟩
      simp only [laws_heldLog.l0]
      rw [w64 (n := 1 + 3 * (i : Int) + 1) (by omega) (by omega), w64 (n := 1 + 3 * (i : Int) + 1 + 1) (by omega) (by omega), w64 (n := 1 + 3 * (i : Int) + 1 + 1 + 1) (by omega) (by omega), w64 (n := (i : Int) + 1) (by omega) (by omega)]
      rw [if_pos (by omega), if_pos (by omega), rd_impl_Entry hi, h3 i hi, if_pos (show (markG i).f0 = 1 + 3 * (i : Int) from rfl), if_pos (show (markG i).f1 = 1 + 3 * (i : Int) + 1 from rfl), show 1 + 3 * (i : Int) + 1 + 1 = 1 + 3 * (i : Int) + 2 by omega, if_neg (show ¬ ((markG i).f2 != (Int.tmod (1 + 3 * (i : Int) + 2) 3 == 0)) = true by simp [markG])]
      rw [show 1 + 3 * (i : Int) + 2 + 1 = 1 + 3 * ((i + 1 : Nat) : Int) by omega]
      rfl)
    (fun k s ⟨g1, g2⟩ => by
      obtain ⟨m', x⟩ := s
      simp only at g1 g2
      subst g1 g2
      refine ⟨m, rfl, ?_⟩
      simp only [laws_heldLog.l0]
      rw [if_neg (by omega), h1, h2]) k' (1, 0) ⟨rfl, rfl⟩ (by omega)
  subst hr
  exact h'
end Go.Proofs.YtmcfbnglocojkaaDoor.G.Pure
end

section
namespace Go.Proofs.YtmcfbnglocojkaaDoor.G.Pure
open Go.RowKit Go.Proofs.YtmcfbnglocojkaaDoor.G Go.Proofs.YtmcfbnglocojkaaDoorW.PrintWords Go.Proofs.YtmcfbnglocojkaaDoorW.PrintLast Go.Proofs.YtmcfbnglocojkaaDoorW.PrintMore
set_option linter.unusedVariables false
set_option linter.unusedSimpArgs false
theorem FnExactReadLog (a0 : ByteArray) (h00 : a0.size ≤ 140737488351232) : ∃ k, laws_FnExactReadLog.f k a0 = some true := by
  refine ⟨6000003, ?_⟩
  unfold laws_FnExactReadLog.f
  by_cases h : (a0.size : Int) > 1048576
  · rw [if_pos h]
  · rw [if_neg h]
    obtain ⟨l, rfl⟩ : ∃ l, a0 = bs l := ⟨a0.data.toList, by simp [bs]⟩
    rw [bs_size] at h
    have hl : l.length ≤ 1048576 := by omega
    have i1 := implReadLog l hl
    have hlen := resI_len l
    rw [specReadLog l hl _ (by omega), res_both, i1]
    generalize resI l = R at *
    obtain ⟨g, c⟩ := R
    simp only at hlen
    simp only [Option.bind_some]
    rw [eqLog_self _ g (by omega) (by omega)]
    simp only [Option.bind_some]
    obtain ⟨v, m, e1, e2, e3⟩ := markLog_held 6000002 g (by omega) (by omega)
    have hb : (c != c) = false := by simp
    rw [if_pos (by first | trivial | rfl), hb]
    simp only [laws_FnExactReadLog.j0]
    rw [if_neg (by simp), e1]
    simp only [Option.bind_some]
    rw [e2 _ (by omega)]
    simp only [Option.bind_some]
    rw [if_neg (by omega), if_pos (by first | trivial | rfl), i1]
    simp only [Option.bind_some]
    rw [eqLog_self _ g (by omega) (by omega)]
    simp only [Option.bind_some]
    rw [if_pos (by first | trivial | rfl), hb]
    simp only [laws_FnExactReadLog.j1]
    rw [if_neg (by simp), e2 _ (by omega)]
    simp only [Option.bind_some]
    rw [if_neg (by omega), if_pos (by first | trivial | rfl)]
end Go.Proofs.YtmcfbnglocojkaaDoor.G.Pure
end
