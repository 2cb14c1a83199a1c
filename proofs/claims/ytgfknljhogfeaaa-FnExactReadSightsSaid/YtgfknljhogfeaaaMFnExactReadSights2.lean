/- The law's functions, their contracts, and the plain lemmas: texts of this claim, laid together. -/
import Derived.StillTailTactics
import Derived.Deep.Slices
import Derived.Deep.Fields
import Derived.ChangeSame
import Derived.OpenShut
import Derived.Test.YtgfknljhogfeaaaMFnExactReadSights0
import Derived.Test.YtgfknljhogfeaaaMFnExactReadSights1
section
namespace Go.Proofs.Ytgfknljhogfeaaa.G
open Go.RowKit Go.Proofs.YtgfknljhogfeaaaW.PrintWords Go.Proofs.YtgfknljhogfeaaaW.PrintLast Go.Proofs.YtgfknljhogfeaaaW.PrintMore
attribute [local go_sem] max2_int min2_int max_two min_two max_three min_three max_four min_four
set_option linter.unusedVariables false
set_option linter.unusedSimpArgs false
def spec_l05Sights.fits (s0_0 : List S68) (c : Int) : Bool := decide (0 ≤ c) && decide (c < (s0_0.length : Int)) && ((arrL68 (rd_T68 s0_0 c)).all fun d => decide (0 ≤ d) && decide (d < 6))
def spec_l05Sights.see (s0_0 : List S68) (c : Int) : S61 := arrS61 (blurB (arrL68 (rd_T68 s0_0 c)))
def spec_l05Sights.f (s0_0 : List S68) (s0_1 : List (List Int)) (a1 : Int) : Option (List S61) := if 0 ≤ a1 ∧ a1 < (s0_1.length : Int) ∧ (rd_L2 s0_1 a1).length ≤ 1000000 ∧ (rd_L2 s0_1 a1).all (spec_l05Sights.fits s0_0) = true then some ((rd_L2 s0_1 a1).map (spec_l05Sights.see s0_0)) else none
theorem spec_l05Sights.six (l : List Int) (h : l.length = 6) : ∃ a b c d e f : Int,l = [a,b,c,d,e,f] := by
 match l,h with
 | [a,b,c,d,e,f],_ => exact ⟨a,b,c,d,e,f,rfl⟩
set_option maxHeartbeats 8000000 in
set_option maxRecDepth 100000 in
theorem spec_l05Sights.calls {g : Nat} (A0 : Option Addr) (c0 : Nat) (s0_0 : List S68) (A1 : Option Addr) (c1 : Nat) (s0_1 : List (List Int)) (a1 : Int) (r : List S61) (w : World) (hr0 : Kd.C k68 w A0 s0_0.length s0_0) (hc0 : s0_0.length ≤ c0) (hr1 : Kd.C (Kd.slice 5 (Kd.int .u8)) w A1 s0_1.length s0_1) (hc1 : s0_1.length ≤ c1) (hb : w.heap[g]? = some (.cells #[.slice A0 s0_0.length c0,.slice A1 s0_1.length c1] 33 (0,0))) (h : spec_l05Sights.f s0_0 s0_1 a1 = some r) :
  Calls Try.prog 42 #[.pointer (some ⟨g,0,none⟩),.int .i64 a1] w fun e w' => ∃ v0_ : Value,e = .returned (v0_) ∧ Kd.R k61 61 w' w.heap.size (fun _ => True) v0_ r ∧ Below w.heap.size w w' := by
 unfold spec_l05Sights.f at h
 by_cases hc : 0 ≤ a1 ∧ a1 < (s0_1.length : Int) ∧ (rd_L2 s0_1 a1).length ≤ 1000000 ∧ (rd_L2 s0_1 a1).all (spec_l05Sights.fits s0_0) = true
 ·rw [if_pos hc] at h;obtain rfl := Option.some.inj h;clear h;obtain ⟨ha0,ha1,hlx,hfit⟩ := hc;obtain ⟨i,rfl⟩ : ∃ i : Nat,a1 = (i : Int) := ⟨a1.toNat,by omega⟩;have HR0 := Aside0.mk hr0;have HR1 := Aside0.mk hr1;have HB := Aside0.mk (Below.refl w.heap.size w);have HX0 : Aside0 (w.cell? ⟨g,0,none⟩ = some (.slice A0 s0_0.length c0)) := ⟨cellS33_0 hb⟩;have HX1 : Aside0 (w.cell? ⟨g,1,none⟩ = some (.slice A1 s0_1.length c1)) := ⟨cellS33_1 hb⟩;clear hb hr0 hr1 hc0 hc1;obtain ⟨ad,Aw,cw,e0,hx0,hlc,hC1⟩ := at_L2 HR1.out (i : Int) (by omega) (by omega);cases e0;simp only [Int.toNat_natCast] at hx0;have HXW := Aside0.mk hx0;have HCW := Aside0.mk hC1;clear hx0 hlc hC1;generalize rd_L2 s0_1 (i : Int) = x at *;have HF := Aside0.mk hfit;generalize hn0 : s0_0.length = m0 at *;have Hn0 := Aside0.mk hn0;generalize hn1 : s0_1.length = m1 at *;generalize hnx : x.length = mx at *;have Hnx := Aside0.mk hnx;clear hfit hn0 hn1 hnx
  go_enter Try.func42,Try.ntmps42
  go_wp2_with ((with_reducible refine gate_dst (N := 7) rfl ?_);refine Kd.R_lit k61 w.heap.size 61 ?hg (N := 7) ?hd (xs := ([] : List S61)) (inner := []) (ok := fun _ => True) (okp := fun _ => True) ?hr ?hp (fun _ hk => hk) trivial HB.out (Nat.le_refl _) (by simp) ?_;(case hd => rfl);(case hg => rfl);(case hr => first | (go_simp;done) | (go_simp;rfl));(case hp => exact (Reps.none _ _));intro v1 w1 ho1 hb1 hg_ hnew_;clear hg_ hnew_;have HO1 := Aside0.mk ho1;have HB1 := Aside0.mk hb1;clear ho1 hb1)
  go_loopg [5,6] (mx + 1) (fun gg s5 s6 wr => ∃ j : Nat,j ≤ mx ∧ mx - j ≤ gg ∧ s6 = .int .i64 j ∧ Aside0 (Kd.R k61 61 wr w.heap.size (fun _ => True) s5 ((x.take j).map (spec_l05Sights.see s0_0))) ∧ Aside0 (Below w.heap.size w wr))
  case atStart => exact ⟨0,by omega,by omega,rfl,HO1,HB1⟩
  case round =>
   clear HO1 HB1 HB;obtain ⟨j,hj,hg2,rfl,HO,HB⟩ := hrel;obtain ⟨Ao,co,eo⟩ := Kd.R_slice HO.out;subst eo;have y0 := (HB.out.cell (World.block_lt_of_cell? w _ HX0.out)).trans HX0.out;have y1 := (HB.out.cell (World.block_lt_of_cell? w _ HX1.out)).trans HX1.out;have y2 := (HB.out.cell (World.block_lt_of_cell? w _ HXW.out)).trans HXW.out
   by_cases hlj : j < mx
   ·have hljz : (j : Int) < (mx : Int) := by omega
    have HJ := Aside0.mk (show j < x.length by rw [Hnx.out];exact hlj);obtain ⟨ad2,e2,hx2⟩ := Kd.at_int HCW.out (j : Int) (by omega) (by omega);cases e2;simp only [Int.toNat_natCast] at hx2;have y3 := (HB.out.cell (World.block_lt_of_cell? w _ hx2)).trans hx2;have HD := Aside0.mk (show rd x (j : Int) = x[j]'HJ.out by unfold rd;rw [Int.toNat_natCast,List.getD_eq_getElem?_getD,List.getElem?_eq_getElem HJ.out];rfl)
    have hfc : spec_l05Sights.fits s0_0 (rd x (j : Int)) = true := by rw [HD.out];exact List.all_eq_true.1 HF.out _ (List.getElem_mem _)
    have HS := Aside0.mk (show (x.take (j + 1)).map (spec_l05Sights.see s0_0) = (x.take j).map (spec_l05Sights.see s0_0) ++ [spec_l05Sights.see s0_0 (rd x (j : Int))] by rw [List.take_succ_eq_append_getElem HJ.out,List.map_append,HD.out];rfl);have HX2 := Aside0.mk hx2;clear hx2;generalize rd x (j : Int) = c at *
    unfold spec_l05Sights.fits at hfc
    simp only [Bool.and_eq_true,decide_eq_true_eq] at hfc;obtain ⟨⟨hc0,hc1⟩,hcv⟩ := hfc;rw [Hn0.out] at hc1;obtain ⟨q,rfl⟩ : ∃ q : Nat,c = (q : Int) := ⟨c.toNat,by omega⟩;obtain ⟨ad3,e3,hcell⟩ := rowA68 HR0.out (show q < m0 by omega);cases e3;have HBL : Aside0 (∀ W : World,Below w.heap.size w W → Calls Try.prog 77 #[.pointer (some (ad3.add (q * 24)))] W fun e w' => e = .returned (.agg (nums .u8 (blurB (arrL68 (rd_T68 s0_0 (q : Int))))).toArray) ∧ Below W.heap.size W w') := ⟨fun W hW => spec_l01Blur.core (ad3.add (q * 24)) (arrL68 (rd_T68 s0_0 (q : Int))) rfl (fun d hd => by have h_ := List.all_eq_true.1 hcv d hd;simpa using h_) W (fun j hj => (hW.cell (World.block_lt_of_cell? w _ (hcell j hj))).trans (hcell j hj))⟩;have HLN := Aside0.mk (blurB_len (arrL68 (rd_T68 s0_0 (q : Int))));have HSE := Aside0.mk (show spec_l05Sights.see s0_0 (q : Int) = arrS61 (blurB (arrL68 (rd_T68 s0_0 (q : Int)))) from rfl);have HLM := Aside0.mk (show ((x.take j).map (spec_l05Sights.see s0_0)).length ≤ 1000000 by rw [List.length_map,List.length_take];omega);clear hcell hcv;generalize blurB (arrL68 (rd_T68 s0_0 (q : Int))) = ys at *;generalize spec_l05Sights.see s0_0 (q : Int) = sv at *;generalize (x.take j).map (spec_l05Sights.see s0_0) = out at *;obtain ⟨d0,d1,d2,d3,d4,d5,ey⟩ := spec_l05Sights.six ys HLN.out;subst ey;have HSV := Aside0.mk (show sv = (⟨d0,d1,d2,d3,d4,d5⟩ : S61) from HSE.out);clear HSE HLN;have HBL' : Aside0 (∀ W : World,Below w.heap.size w W → Calls Try.prog 77 #[.pointer (some (ad3.add (q * 24)))] W fun e w' => e = .returned (.agg #[.int .u8 d0,.int .u8 d1,.int .u8 d2,.int .u8 d3,.int .u8 d4,.int .u8 d5]) ∧ Below W.heap.size W w') := HBL;clear HBL;have n0_ := Aside0.mk (Kd.R_drew HO.out);have n1_ := Aside0.mk (below_drew1 HB.out);have hqz : (q : Int) < (m0 : Int) := hc1
    go_wp2
    clear HO HB y0 y1 y2 y3;refine start_ (n := 20) (S := fun w' => w'.cell? ⟨g,0,none⟩ = some (.slice (some ad3) m0 c0) ∧ w'.cell? ⟨g,1,none⟩ = some (.slice (some ad) m1 c1) ∧ w'.cell? (ad.add i) = some (.slice (some ad2) mx cw) ∧ w'.cell? (ad2.add j) = some (.int .u8 (q : Int))) (ds := []) #[false,false,false,false,false,false,false,false,false,false,false,false,false,false,false,false,false,false,false,false] (by kernel_rfl) rfl rfl ⟨(n1_.out.cell (World.block_lt_of_cell? w _ HX0.out)).trans HX0.out,(n1_.out.cell (World.block_lt_of_cell? w _ HX1.out)).trans HX1.out,(n1_.out.cell (World.block_lt_of_cell? w _ HXW.out)).trans HXW.out,(n1_.out.cell (World.block_lt_of_cell? w _ HX2.out)).trans HX2.out⟩ (fun hHeld => ?_);generalize wr.drew = wd at n0_ n1_ hHeld ⊢;have HO := n0_;have HB := n1_;clear n0_ n1_;refine pure_ (i := 0) (N := some 20) (v := ?_) (a' := ?_) #[true,false,false,false,false,false,false,false,false,false,false,false,false,false,false,false,false,false,false,false] rfl rfl (by kernel_rfl) (fun _ _ _ h => h) (Or.inl ⟨by rfl,?_⟩) ?_ ?_;rotate_left
    ·intro w';go_simp;with_reducible rfl
    rotate_left
    ·simp only [Act.put,List.setIfInBounds_toArray,List.set_cons_zero,List.set_cons_succ,i64_w,i32_w];rfl
    refine pure_ (i := 1) (N := some 21) (v := ?_) (a' := ?_) #[true,true,false,false,false,false,false,false,false,false,false,false,false,false,false,false,false,false,false,false] rfl rfl (by kernel_rfl) (fun _ _ _ h => h) (Or.inl ⟨by rfl,?_⟩) ?_ ?_;rotate_left
    ·intro w';go_simp;with_reducible rfl
    rotate_left
    ·simp only [Act.put,List.setIfInBounds_toArray,List.set_cons_zero,List.set_cons_succ,i64_w,i32_w];rfl
    refine pure_ (i := 2) (N := some 22) (v := ?_) (a' := ?_) #[true,true,true,false,false,false,false,false,false,false,false,false,false,false,false,false,false,false,false,false] rfl rfl (by kernel_rfl) (fun _ _ _ h => h) (Or.inl ⟨by rfl,?_⟩) ?_ ?_;rotate_left
    ·intro w';go_simp;with_reducible rfl
    rotate_left
    ·simp only [Act.put,List.setIfInBounds_toArray,List.set_cons_zero,List.set_cons_succ,i64_w,i32_w];rfl
    refine pure_ (i := 3) (N := some 23) (v := ?_) (a' := ?_) #[true,true,true,true,false,false,false,false,false,false,false,false,false,false,false,false,false,false,false,false] rfl rfl (by kernel_rfl) (fun _ _ _ h => h) (Or.inl ⟨by rfl,?_⟩) ?_ ?_;rotate_left
    ·intro w';go_simp;with_reducible rfl
    rotate_left
    ·simp only [Act.put,List.setIfInBounds_toArray,List.set_cons_zero,List.set_cons_succ,i64_w,i32_w];rfl
    refine pure_ (i := 5) (N := some 25) (v := ?_) (a' := ?_) #[true,true,true,true,false,true,false,false,false,false,false,false,false,false,false,false,false,false,false,false] rfl rfl (by kernel_rfl) (fun _ _ _ h => h) (Or.inl ⟨by rfl,?_⟩) ?_ ?_;rotate_left
    ·intro w';go_simp;with_reducible rfl
    rotate_left
    ·simp only [Act.put,List.setIfInBounds_toArray,List.set_cons_zero,List.set_cons_succ,i64_w,i32_w];rfl
    refine pure_ (i := 6) (N := some 26) (v := ?_) (a' := ?_) #[true,true,true,true,false,true,true,false,false,false,false,false,false,false,false,false,false,false,false,false] rfl rfl (by kernel_rfl) (fun _ _ _ h => h) (Or.inl ⟨by rfl,?_⟩) ?_ ?_;rotate_left
    ·intro w';go_simp;with_reducible rfl
    rotate_left
    ·simp only [Act.put,List.setIfInBounds_toArray,List.set_cons_zero,List.set_cons_succ,i64_w,i32_w];rfl
    refine pure_ (i := 7) (N := some 27) (v := ?_) (a' := ?_) #[true,true,true,true,false,true,true,true,false,false,false,false,false,false,false,false,false,false,false,false] rfl rfl (by kernel_rfl) (fun _ _ _ h => h) (Or.inl ⟨by rfl,?_⟩) ?_ ?_;rotate_left
    ·intro w';go_simp;with_reducible rfl
    rotate_left
    ·simp only [Act.put,List.setIfInBounds_toArray,List.set_cons_zero,List.set_cons_succ,i64_w,i32_w];rfl
    refine pure_ (i := 9) (N := some 29) (v := ?_) (a' := ?_) #[true,true,true,true,false,true,true,true,false,true,false,false,false,false,false,false,false,false,false,false] rfl rfl (by kernel_rfl) (fun _ _ _ h => h) (Or.inl ⟨by rfl,?_⟩) ?_ ?_;rotate_left
    ·intro w';go_simp;with_reducible rfl
    rotate_left
    ·simp only [Act.put,List.setIfInBounds_toArray,List.set_cons_zero,List.set_cons_succ,i64_w,i32_w];rfl
    refine pure_ (i := 12) (N := some 32) (v := ?_) (a' := ?_) #[true,true,true,true,false,true,true,true,false,true,false,false,true,false,false,false,false,false,false,false] rfl rfl (by kernel_rfl) (fun _ _ _ h => h) (Or.inl ⟨by rfl,?_⟩) ?_ ?_;rotate_left
    ·intro w';go_simp;with_reducible rfl
    rotate_left
    ·simp only [Act.put,List.setIfInBounds_toArray,List.set_cons_zero,List.set_cons_succ,i64_w,i32_w];rfl
    refine take_ (i := 4) (N := some 24) (v := ?_) (a' := ?_) #[true,true,true,true,true,true,true,true,false,true,false,false,true,false,false,false,false,false,false,false] rfl rfl (by kernel_rfl) (fun _ _ _ h => h) (Or.inl ⟨by rfl,?_⟩) hHeld ?_ ?_;rotate_left
    ·rintro w' ⟨s0,s1,s2,s3⟩
     go_simp;with_reducible rfl
    rotate_left
    ·simp only [Act.put,List.setIfInBounds_toArray,List.set_cons_zero,List.set_cons_succ,i64_w,i32_w];rfl
    refine take_ (i := 8) (N := some 28) (v := ?_) (a' := ?_) #[true,true,true,true,true,true,true,true,true,true,false,false,true,false,false,false,false,false,false,false] rfl rfl (by kernel_rfl) (fun _ _ _ h => h) (Or.inl ⟨by rfl,?_⟩) hHeld ?_ ?_;rotate_left
    ·rintro w' ⟨s0,s1,s2,s3⟩
     go_simp;with_reducible rfl
    rotate_left
    ·simp only [Act.put,List.setIfInBounds_toArray,List.set_cons_zero,List.set_cons_succ,i64_w,i32_w];rfl
    refine pure_ (i := 10) (N := some 30) (v := ?_) (a' := ?_) #[true,true,true,true,true,true,true,true,true,true,true,false,true,false,false,false,false,false,false,false] rfl rfl (by kernel_rfl) (fun _ _ _ h => h) (Or.inl ⟨by rfl,?_⟩) ?_ ?_;rotate_left
    ·intro w';go_simp;with_reducible rfl
    rotate_left
    ·simp only [Act.put,List.setIfInBounds_toArray,List.set_cons_zero,List.set_cons_succ,i64_w,i32_w];rfl
    refine take_ (i := 11) (N := some 31) (v := ?_) (a' := ?_) #[true,true,true,true,true,true,true,true,true,true,true,true,true,false,false,false,false,false,false,false] rfl rfl (by kernel_rfl) (fun _ _ _ h => h) (Or.inl ⟨by rfl,?_⟩) hHeld ?_ ?_;rotate_left
    ·rintro w' ⟨s0,s1,s2,s3⟩
     go_simp;with_reducible rfl
    rotate_left
    ·simp only [Act.put,List.setIfInBounds_toArray,List.set_cons_zero,List.set_cons_succ,i64_w,i32_w];rfl
    refine pure_ (i := 13) (N := some 33) (v := ?_) (a' := ?_) #[true,true,true,true,true,true,true,true,true,true,true,true,true,true,false,false,false,false,false,false] rfl rfl (by kernel_rfl) (fun _ _ _ h => h) (Or.inl ⟨by rfl,?_⟩) ?_ ?_;rotate_left
    ·intro w';go_simp;with_reducible rfl
    rotate_left
    ·simp only [Act.put,List.setIfInBounds_toArray,List.set_cons_zero,List.set_cons_succ,i64_w,i32_w];rfl
    refine take_ (i := 14) (N := some 34) (v := ?_) (a' := ?_) #[true,true,true,true,true,true,true,true,true,true,true,true,true,true,true,false,false,false,false,false] rfl rfl (by kernel_rfl) (fun _ _ _ h => h) (Or.inl ⟨by rfl,?_⟩) hHeld ?_ ?_;rotate_left
    ·rintro w' ⟨s0,s1,s2,s3⟩
     go_simp;with_reducible rfl
    rotate_left
    ·simp only [Act.put,List.setIfInBounds_toArray,List.set_cons_zero,List.set_cons_succ,i64_w,i32_w];rfl
    refine pure_ (i := 15) (N := some 35) (v := ?_) (a' := ?_) #[true,true,true,true,true,true,true,true,true,true,true,true,true,true,true,true,false,false,false,false] rfl rfl (by kernel_rfl) (fun _ _ _ h => h) (Or.inl ⟨by rfl,?_⟩) ?_ ?_;rotate_left
    ·intro w';go_simp;with_reducible rfl
    rotate_left
    ·simp only [Act.put,List.setIfInBounds_toArray,List.set_cons_zero,List.set_cons_succ,i64_w,i32_w];rfl
    refine one_ (i := 16) (N := some 36) #[true,true,true,true,true,true,true,true,true,true,true,true,true,true,true,true,true,false,false,false] rfl rfl (by kernel_rfl) (by decide) (fun K hK => ?_);refine goes_ Try.func77 (by kernel_rfl) rfl #[.pointer (some (ad3.add (q * 24)))] (by rfl) rfl rfl (by (try simp only [List.map_toArray,List.map_cons,List.map_nil]);first | done | rfl) ?_;refine (HBL'.out _ HB.out).mono ?_
    rintro e w3 ⟨rfl,hb⟩
    refine ⟨_,rfl,?_⟩;have n0_ := Aside0.mk (Kd.R_below HO.out hb);have n1_ := Aside0.mk (below_step HB.out hb);clear HO HB hb;have HO := n0_;have HB := n1_;clear n0_ n1_;refine hK.out _ _ ⟨(HB.out.cell (World.block_lt_of_cell? w _ HX0.out)).trans HX0.out,(HB.out.cell (World.block_lt_of_cell? w _ HX1.out)).trans HX1.out,(HB.out.cell (World.block_lt_of_cell? w _ HXW.out)).trans HXW.out,(HB.out.cell (World.block_lt_of_cell? w _ HX2.out)).trans HX2.out⟩ (fun hHeld => ?_);clear hK K;refine norm_ (a' := ?_) ?_ ?_;rotate_left
    ·show Act.put _ (some 36) _ = _
     simp only [Act.put,List.setIfInBounds_toArray,List.set_cons_zero,List.set_cons_succ,i64_w,i32_w];rfl
    refine one_ (i := 17) (N := some 37) #[true,true,true,true,true,true,true,true,true,true,true,true,true,true,true,true,true,true,false,false] rfl rfl (by kernel_rfl) (by decide) (fun K hK => ?_);refine value_ (w1 := ?_) (v := ?_) (by rfl) rfl ?_ ?_;rotate_left 2
    ·go_simp
     constructor
     ·rfl
     ·rfl
    refine hK.out _ _ ⟨((below_alloc HB.out _).cell (World.block_lt_of_cell? w _ HX0.out)).trans HX0.out,((below_alloc HB.out _).cell (World.block_lt_of_cell? w _ HX1.out)).trans HX1.out,((below_alloc HB.out _).cell (World.block_lt_of_cell? w _ HXW.out)).trans HXW.out,((below_alloc HB.out _).cell (World.block_lt_of_cell? w _ HX2.out)).trans HX2.out⟩ (fun hHeld => ?_);clear hK K;refine norm_ (a' := ?_) ?_ ?_;rotate_left
    ·show Act.put _ (some 37) _ = _
     simp only [Act.put,List.setIfInBounds_toArray,List.set_cons_zero,List.set_cons_succ,i64_w,i32_w];rfl
    refine one_ (i := 18) (N := some 38) #[true,true,true,true,true,true,true,true,true,true,true,true,true,true,true,true,true,true,true,false] rfl rfl (by kernel_rfl) (by decide) (fun K hK => ?_);refine Kd.R_append_step k61 (w0 := w) w.heap.size (by rfl) (.tmp 20) (.tmp 37) 27 61 (.agg #[(.int .u8 0),(.int .u8 0),(.int .u8 0),(.int .u8 0),(.int .u8 0),(.int .u8 0)]) 6 (by rfl) Try.underlying27 info61 rfl (by decide) (by omega) _ out (⟨d0,d1,d2,d3,d4,d5⟩ : S61) [.int .u8 d0,.int .u8 d1,.int .u8 d2,.int .u8 d3,.int .u8 d4,.int .u8 d5] (fun _ => True) (fun _ => False) (by rfl) (by rfl) ?aP (fun _ hk => hk.elim) ?aF ?aO ?aB ?aS ?aL ?_;(case aP => exact k61_mkM _ _ _ (⟨d0,d1,d2,d3,d4,d5⟩ : S61));(case aF => exact fun _ _ => trivial);(case aO => exact HO.out);(case aB => exact HB.out);(case aS => exact below_size HB.out);(case aL => have := HLM.out;omega);intro v1 w5 ho hb _ _;have n0_ := Aside0.mk ho;have n1_ := Aside0.mk hb;clear HO HB ho hb;have HO := n0_;have HB := n1_;clear n0_ n1_;refine hK.out _ _ ⟨(HB.out.cell (World.block_lt_of_cell? w _ HX0.out)).trans HX0.out,(HB.out.cell (World.block_lt_of_cell? w _ HX1.out)).trans HX1.out,(HB.out.cell (World.block_lt_of_cell? w _ HXW.out)).trans HXW.out,(HB.out.cell (World.block_lt_of_cell? w _ HX2.out)).trans HX2.out⟩ (fun hHeld => ?_);clear hK K;refine norm_ (a' := ?_) ?_ ?_;rotate_left
    ·show Act.put _ (some 38) _ = _
     simp only [Act.put,List.setIfInBounds_toArray,List.set_cons_zero,List.set_cons_succ,i64_w,i32_w];rfl
    refine pure_ (i := 19) (N := some 5) (v := ?_) (a' := ?_) #[true,true,true,true,true,true,true,true,true,true,true,true,true,true,true,true,true,true,true,true] rfl rfl (by kernel_rfl) (fun _ _ _ h => h) (Or.inl ⟨by rfl,?_⟩) ?_ ?_;rotate_left
    ·intro w';go_simp;with_reducible rfl
    rotate_left
    ·simp only [Act.put,List.setIfInBounds_toArray,List.set_cons_zero,List.set_cons_succ,i64_w,i32_w];rfl
    refine done_ (by kernel_rfl) ?_
    go_wp2
    go_roundg (mx - (j + 1))
    case measure => omega
    case rel => exact ⟨j + 1,by omega,Nat.le_refl _,by first | rfl | (go_simp;done) | (simp [IntKind.wrap_i64];omega),⟨by rw [HS.out,HSV.out];exact HO.out⟩,HB⟩
   ·have hlj' : ¬ (j : Int) < (mx : Int) := by omega
    have ex : x.take j = x := List.take_of_length_le (by have := Hnx.out;omega);rw [ex] at HO ⊢;generalize hL : (x.map (spec_l05Sights.see s0_0)).length = nl at HO ⊢;clear hL
    go_wp2
    go_ret
    exact ⟨_,rfl,HO.out,HB.out⟩
 ·rw [if_neg hc] at h;cases h
end Go.Proofs.Ytgfknljhogfeaaa.G
end

section
namespace Go.Proofs.Ytgfknljhogfeaaa.G
open Go.RowKit Go.Proofs.YtgfknljhogfeaaaW.PrintWords Go.Proofs.YtgfknljhogfeaaaW.PrintLast Go.Proofs.YtgfknljhogfeaaaW.PrintMore
attribute [local go_sem] max2_int min2_int max_two min_two max_three min_three max_four min_four
set_option linter.unusedVariables false
set_option linter.unusedSimpArgs false
mutual
def spec_ReadSights.j0 : Nat → List (S61) → Bool → List (S68) → List (List Int) → Option (Int × Int × Int)
 | 0,_,_,_,_ => none
 | k + 1,x1,x18,x102000,x102001 => if x18 = true then (some (0,0,1)) else (if (x102001.length : Int) = 0 then (some (0,0,6)) else (if 0 < (x102001.length : Int) then (if (x1.length : Int) = ((rd_L2 x102001 0).length : Int) then (spec_ReadSights.l0 k x1 0 (-1) 0 0 x102000 x102001) else (some (0,0,2))) else (none)))
def spec_ReadSights.l0 : Nat → List (S61) → Int → Int → Int → Int → List (S68) → List (List Int) → Option (Int × Int × Int)
 | 0,_,_,_,_,_,_,_ => none
 | k + 1,x1,x7,x8,x9,x10,x102000,x102001 => if x10 < (x102001.length : Int) then ((spec_l05Sights.f x102000 x102001 x10).bind fun t105 => ((spec_l05Far.f t105 x1).bind fun t108 => (if x8 < 0 then (spec_ReadSights.j2 k x1 x7 x8 x9 x10 t108 true x102000 x102001) else (spec_ReadSights.j2 k x1 x7 x8 x9 x10 t108 (decide (t108 < x8)) x102000 x102001)))) else (if x9 > 1 then (some (0,0,8)) else (some (x7,x8,0)))
def spec_ReadSights.j2 : Nat → List (S61) → Int → Int → Int → Int → Int → Bool → List (S68) → List (List Int) → Option (Int × Int × Int)
 | 0,_,_,_,_,_,_,_,_,_ => none
 | k + 1,x1,x7,x8,x9,x10,x11,x48,x102000,x102001 => if x48 = true then (if x11 = x11 then (spec_ReadSights.l0 k x1 x10 x11 1 (wrap64 (x10 + 1)) x102000 x102001) else (spec_ReadSights.l0 k x1 x10 x11 0 (wrap64 (x10 + 1)) x102000 x102001)) else (if x11 = x8 then (spec_ReadSights.l0 k x1 x7 x8 (wrap64 (x9 + 1)) (wrap64 (x10 + 1)) x102000 x102001) else (spec_ReadSights.l0 k x1 x7 x8 x9 (wrap64 (x10 + 1)) x102000 x102001))
end
def spec_ReadSights.f (k : Nat) (l0_0 : List (S68)) (l0_1 : List (List Int)) (l1 : List (S61)) : Option (Int × Int × Int) := (spec_l05Ok.f k l0_0 l0_1).bind fun t102 => (if t102 = true then ((spec_l05Seen.f l1).bind fun t103 => (spec_ReadSights.j0 k l1 (!t103) l0_0 l0_1)) else (spec_ReadSights.j0 k l1 true l0_0 l0_1))
set_option maxHeartbeats 8000000 in
set_option maxRecDepth 100000 in
theorem spec_ReadSights.calls (k : Nat) (A0_0 : Option Addr) (c0_0 : Nat) (l0_0 : List (S68)) (A0_1 : Option Addr) (c0_1 : Nat) (l0_1 : List (List Int)) (A1 : Option Addr) (c1 : Nat) (l1 : List (S61)) (r1 : Int) (r2 : Int) (r3 : Int) (w : World) (hr0_0 : Kd.C k68 w A0_0 l0_0.length l0_0) (hc0_0 : l0_0.length ≤ c0_0) (hr0_1 : Kd.C (Kd.slice 5 (Kd.int .u8)) w A0_1 l0_1.length l0_1) (hc0_1 : l0_1.length ≤ c0_1) (hr1 : Kd.C k61 w A1 l1.length l1) (hc1 : l1.length ≤ c1) (h : spec_ReadSights.f k l0_0 l0_1 l1 = some (r1,r2,r3)) :
  Calls Try.prog 20 #[.agg #[.slice A0_0 l0_0.length c0_0,.slice A0_1 l0_1.length c0_1],.slice A1 l1.length c1] w fun e w' => e = .returned (.tuple #[.int .i64 r1,.int .i64 r2,.int .i64 r3]) ∧ Below w.heap.size w w' := by
 have hu33 := Try.underlying33;have HR0_0 := Aside0.mk hr0_0;have HC0_0 := Aside0.mk hc0_0;clear hr0_0 hc0_0;have HR0_1 := Aside0.mk hr0_1;have HC0_1 := Aside0.mk hc0_1;clear hr0_1 hc0_1;have HR1 := Aside0.mk hr1;have HC1 := Aside0.mk hc1;clear hr1 hc1;have HB := Aside0.mk (Below.refl w.heap.size w);have H : ((spec_l05Ok.f k l0_0 l0_1).bind fun t102 => (if t102 = true then ((spec_l05Seen.f l1).bind fun t103 => (spec_ReadSights.j0 k l1 (!t103) l0_0 l0_1)) else (spec_ReadSights.j0 k l1 true l0_0 l0_1))) = some (r1,r2,r3) := h;clear h;have HC3 := Aside0.mk H;clear H
 go_enter Try.func20,Try.ntmps20
 go_upto_region 1 with (first | ((with_reducible refine gate_dst (N := 2) rfl ?_);refine box_event ?hg (N := 2) ?hd (cs := #[.slice A0_0 l0_0.length c0_0,.slice A0_1 l0_1.length c0_1]) (t := 33) ?hr ?_;(case hd => rfl);(case hg => rfl);(case hr => first | (go_simp;done) | (go_simp;rfl));intro gb101 hg w4 hbox hb;have n0_ := Aside0.mk (below_step (by repeat (first | (with_reducible first | exact HB.out | apply below_alloc | apply pw_below_drewN | apply below_drew1) | exact HB.out)) hb);have n1_ := Aside0.mk (hbox);have n2_ := Aside0.mk ((by rw [hg];exact (below_size (by repeat (first | (with_reducible first | exact HB.out | apply below_alloc | apply pw_below_drewN | apply below_drew1) | exact HB.out))) : w.heap.size ≤ gb101));have n3_ := Aside0.mk ((by rw [hg];exact (below_size (by repeat (first | (with_reducible first | exact HB.out | apply below_alloc | apply pw_below_drewN | apply below_drew1) | exact HB.out))) : w.heap.size ≤ gb101));clear HB;have HB := n0_;have BK101 := n1_;have GW101 := n2_;have GE101 := n3_;clear n0_ n1_ n2_ n3_;clear hb hbox hg))
 (try simp only [Act.put,List.setIfInBounds_toArray,List.set_cons_zero,List.set_cons_succ])
 go_cut [18] (fun v18 wc => ∃ (kq : Nat) (x18_2 : Bool),v18 = .bool x18_2 ∧ Aside0 (spec_ReadSights.j0 kq l1 x18_2 l0_0 l0_1 = some (r1,r2,r3)) ∧ Aside0 (kq ≤ k) ∧ Aside0 (wc.heap[gb101]? = some (.cells #[(.slice A0_0 l0_0.length c0_0),(.slice A0_1 l0_1.length c0_1)] 33 (0,0))) ∧ Aside0 (Below w.heap.size w wc))
 case first =>
  have H := HC3.out;clear HC3;replace H := Option.bind_eq_some_iff.mp H;obtain ⟨t102,A50,H⟩ := H;replace H : (if t102 = true then ((spec_l05Seen.f l1).bind fun t103 => (spec_ReadSights.j0 k l1 (!t103) l0_0 l0_1)) else (spec_ReadSights.j0 k l1 true l0_0 l0_1)) = some (r1,r2,r3) := H;have A5 := Aside0.mk A50;clear A50
  by_cases c6 : t102 = true
  ·subst c6
   have H1 : ((spec_l05Seen.f l1).bind fun t103 => (spec_ReadSights.j0 k l1 (!t103) l0_0 l0_1)) = some (r1,r2,r3) := by first | (rw [if_pos rfl] at H;exact H) | simpa using H
   clear H;have H := H1;clear H1;replace H := Option.bind_eq_some_iff.mp H;obtain ⟨t103,A70,H⟩ := H;replace H : (spec_ReadSights.j0 k l1 (!t103) l0_0 l0_1) = some (r1,r2,r3) := H;have A7 := Aside0.mk A70;clear A70;have H' := Aside0.mk H;clear H
   go_wp2_with (first | ((with_reducible refine gate_callee (f := 40) rfl ?_);refine goesL_ (some 12) rfl rfl Try.func40 (by kernel_rfl) rfl #[.pointer (some ⟨gb101,0,none⟩)] rfl (by (try simp only [List.map_toArray,List.map_cons,List.map_nil]);first | done | rfl | (simp only [List.length_drop,List.length_take];rfl)) ?_;(with_reducible refine (spec_l05Ok.calls k A0_0 c0_0 l0_0 A0_1 c0_1 l0_1 true _ ?side1 ?side2 ?side3 ?side4 ?side5 A5.out).mono ?_);(case side1 => repeat (first | exact (Kd.C_below HR0_0.out HB.out) | (with_reducible refine Kd.C_alloc ?_ _) | (with_reducible refine Kd.C_drewN ?_ _) | (with_reducible refine Kd.C_drew ?_)));(case side2 => exact HC0_0.out);(case side3 => repeat (first | exact (Kd.C_below HR0_1.out HB.out) | (with_reducible refine Kd.C_alloc ?_ _) | (with_reducible refine Kd.C_drewN ?_ _) | (with_reducible refine Kd.C_drew ?_)));(case side4 => exact HC0_1.out);(case side5 => exact (by (with_reducible repeat (first | refine blk_drewN ?_ _ | refine blk_drew ?_ | refine blk_alloc ?_ _));exact BK101.out));rintro e w8 ⟨rfl,hb⟩;refine ⟨_,rfl,?_⟩;have n0_ := Aside0.mk (blk_below (g := gb101) (o := .cells #[.slice A0_0 l0_0.length c0_0,.slice A0_1 l0_1.length c0_1] 33 (0,0)) (by (with_reducible repeat (first | refine blk_drewN ?_ _ | refine blk_drew ?_ | refine blk_alloc ?_ _));exact BK101.out) hb);have n1_ := Aside0.mk (below_step (by repeat (first | (with_reducible first | exact HB.out | apply below_alloc | apply pw_below_drewN | apply below_drew1 | refine below_set ?_ GE101.out) | exact HB.out)) hb);clear BK101;clear HB;have BK101 := n0_;have HB := n1_;clear n0_ n1_;(try clear hb);(try clear hb2);(try clear hk);(try clear hi)) | (go_at_call 57;(with_reducible refine (spec_l05Seen.calls _ _ l1 t103 _ ?side1 ?side2 A7.out).mono ?_);(case side1 => repeat (first | exact (Kd.C_below HR1.out HB.out) | (with_reducible refine Kd.C_alloc ?_ _) | (with_reducible refine Kd.C_drewN ?_ _) | (with_reducible refine Kd.C_drew ?_)));(case side2 => exact HC1.out);rintro e w' ⟨rfl,⟨nd,rfl⟩⟩))
   go_meet
   case rel => exact ⟨_,(!t103),(by first | rfl | (simp only [IntKind.wrap_i64,wrap64];done) | (simp;done) | (simp [*];done)),H',⟨by first | omega | exact Nat.le_refl _⟩,⟨by (with_reducible repeat (first | refine blk_drewN ?_ _ | refine blk_drew ?_ | refine blk_alloc ?_ _));exact BK101.out⟩,⟨by repeat (first | (with_reducible first | exact HB.out | apply below_alloc | apply pw_below_drewN | apply below_drew1 | refine below_set ?_ GE101.out) | exact HB.out)⟩⟩
  ·replace c6 := Bool.eq_false_iff.mpr c6;subst c6
   have H1 : (spec_ReadSights.j0 k l1 true l0_0 l0_1) = some (r1,r2,r3) := by rw [if_neg (show ¬ (false = true) by decide)] at H;exact H
   clear H;have H := H1;clear H1;have H' := Aside0.mk H;clear H
   go_wp2_with (first | ((with_reducible refine gate_callee (f := 40) rfl ?_);refine goesL_ (some 12) rfl rfl Try.func40 (by kernel_rfl) rfl #[.pointer (some ⟨gb101,0,none⟩)] rfl (by (try simp only [List.map_toArray,List.map_cons,List.map_nil]);first | done | rfl | (simp only [List.length_drop,List.length_take];rfl)) ?_;(with_reducible refine (spec_l05Ok.calls k A0_0 c0_0 l0_0 A0_1 c0_1 l0_1 false _ ?side1 ?side2 ?side3 ?side4 ?side5 A5.out).mono ?_);(case side1 => repeat (first | exact (Kd.C_below HR0_0.out HB.out) | (with_reducible refine Kd.C_alloc ?_ _) | (with_reducible refine Kd.C_drewN ?_ _) | (with_reducible refine Kd.C_drew ?_)));(case side2 => exact HC0_0.out);(case side3 => repeat (first | exact (Kd.C_below HR0_1.out HB.out) | (with_reducible refine Kd.C_alloc ?_ _) | (with_reducible refine Kd.C_drewN ?_ _) | (with_reducible refine Kd.C_drew ?_)));(case side4 => exact HC0_1.out);(case side5 => exact (by (with_reducible repeat (first | refine blk_drewN ?_ _ | refine blk_drew ?_ | refine blk_alloc ?_ _));exact BK101.out));rintro e w9 ⟨rfl,hb⟩;refine ⟨_,rfl,?_⟩;have n0_ := Aside0.mk (blk_below (g := gb101) (o := .cells #[.slice A0_0 l0_0.length c0_0,.slice A0_1 l0_1.length c0_1] 33 (0,0)) (by (with_reducible repeat (first | refine blk_drewN ?_ _ | refine blk_drew ?_ | refine blk_alloc ?_ _));exact BK101.out) hb);have n1_ := Aside0.mk (below_step (by repeat (first | (with_reducible first | exact HB.out | apply below_alloc | apply pw_below_drewN | apply below_drew1 | refine below_set ?_ GE101.out) | exact HB.out)) hb);clear BK101;clear HB;have BK101 := n0_;have HB := n1_;clear n0_ n1_;(try clear hb);(try clear hb2);(try clear hk);(try clear hi)))
   go_meet
   case rel => exact ⟨_,(true),(by first | rfl | (simp only [IntKind.wrap_i64,wrap64];done) | (simp;done) | (simp [*];done)),H',⟨by first | omega | exact Nat.le_refl _⟩,⟨by (with_reducible repeat (first | refine blk_drewN ?_ _ | refine blk_drew ?_ | refine blk_alloc ?_ _));exact BK101.out⟩,⟨by repeat (first | (with_reducible first | exact HB.out | apply below_alloc | apply pw_below_drewN | apply below_drew1 | refine below_set ?_ GE101.out) | exact HB.out)⟩⟩
 case rest =>
  clear HC3;(try clear c1);(try clear c2);(try clear p2);(try clear c4);(try clear c6);obtain ⟨kq,x18_2,rfl,HA,HJ2,BK101,HB⟩ := hcut
  cases kq with
  | zero => exact absurd HA.out (by simp [spec_ReadSights.j0])
  | succ kj2 =>
   have H := HA.out;clear HA;simp only [spec_ReadSights.j0] at H
   by_cases c10 : x18_2 = true
   ·subst c10
    have H1 : (some (0,0,1)) = some (r1,r2,r3) := by first | (rw [if_pos rfl] at H;exact H) | simpa using H
    clear H;have H := H1;clear H1;simp only [Option.some.injEq,Prod.mk.injEq] at H;obtain ⟨rfl,rfl,rfl⟩ := H
    go_wp2
    go_ret3
    exact ⟨by first | rfl | (simp [errW_none,errW_some,IntKind.wrap_i64,wrap64];done) | (simp [errW_none,errW_some] <;> rfl) | (simp [*,errW_none,errW_some] <;> rfl),by repeat (first | (with_reducible first | exact HB.out | apply below_alloc | apply pw_below_drewN | apply below_drew1 | refine below_set ?_ GE101.out) | exact HB.out)⟩
   ·replace c10 := Bool.eq_false_iff.mpr c10;subst c10
    have H1 : (if (l0_1.length : Int) = 0 then (some (0,0,6)) else (if 0 < (l0_1.length : Int) then (if (l1.length : Int) = ((rd_L2 l0_1 0).length : Int) then (spec_ReadSights.l0 kj2 l1 0 (-1) 0 0 l0_0 l0_1) else (some (0,0,2))) else (none))) = some (r1,r2,r3) := by rw [if_neg (show ¬ (false = true) by decide)] at H;exact H
    clear H;have H := H1;clear H1
    by_cases c11 : (l0_1.length : Int) = 0
    ·rw [if_pos c11] at H;have c11b0 : ((l0_1.length : Int) == 0) = true := beq_iff_eq.mpr c11;have c11b1 : ((l0_1.length : Int) != 0) = false := bne_eq_false_iff_eq.mpr c11;clear c11;simp only [Option.some.injEq,Prod.mk.injEq] at H;obtain ⟨rfl,rfl,rfl⟩ := H;have hcz12_0 : wc.cell? ⟨gb101,0,none⟩ = some (.slice A0_0 l0_0.length c0_0) := (blk_cell BK101.out 0).trans rfl;have hcz12_1 : wc.cell? ⟨gb101,1,none⟩ = some (.slice A0_1 l0_1.length c0_1) := (blk_cell BK101.out 1).trans rfl;have hfz12_0 := blk_frozen BK101.out 0;have hfz12_1 := blk_frozen BK101.out 1
     go_wp2
     go_ret3
     exact ⟨by first | rfl | (simp [errW_none,errW_some,IntKind.wrap_i64,wrap64];done) | (simp [errW_none,errW_some] <;> rfl) | (simp [*,errW_none,errW_some] <;> rfl),by repeat (first | (with_reducible first | exact HB.out | apply below_alloc | apply pw_below_drewN | apply below_drew1 | refine below_set ?_ GE101.out) | exact HB.out)⟩
    ·rw [if_neg c11] at H;have c11b0 : ((l0_1.length : Int) == 0) = false := beq_eq_false_iff_ne.mpr c11;have c11b1 : ((l0_1.length : Int) != 0) = true := bne_iff_ne.mpr c11
     have c11b2 : ¬ (l0_1 = []) := fun h_ => c11 (by rw [h_];rfl)
     by_cases c13 : 0 < (l0_1.length : Int)
     ·rw [if_pos c13] at H;have c13b0 : decide (0 < (l0_1.length : Int)) = true := decide_eq_true c13;have c13b1 : decide (0 < l0_1.length) = true := decide_eq_true (by omega);clear c13
      by_cases c14 : (l1.length : Int) = ((rd_L2 l0_1 0).length : Int)
      ·rw [if_pos c14] at H;have c14b0 : ((l1.length : Int) == ((rd_L2 l0_1 0).length : Int)) = true := beq_iff_eq.mpr c14;have c14b1 : ((l1.length : Int) != ((rd_L2 l0_1 0).length : Int)) = false := bne_eq_false_iff_eq.mpr c14
       have c14b2 : (l1.length == (rd_L2 l0_1 0).length) = true := by first | simpa using c14 | (simp at c14 ⊢;omega)
       clear c14;have H' := Aside0.mk H;clear H;have hcz15_0 : wc.cell? ⟨gb101,0,none⟩ = some (.slice A0_0 l0_0.length c0_0) := (blk_cell BK101.out 0).trans rfl;have hcz15_1 : wc.cell? ⟨gb101,1,none⟩ = some (.slice A0_1 l0_1.length c0_1) := (blk_cell BK101.out 1).trans rfl;have hfz15_0 := blk_frozen BK101.out 0;have hfz15_1 := blk_frozen BK101.out 1;have p104 : 0 ≤ (0 : Int) := (by omega);have q104 : 0 < (l0_1.length : Int) := of_decide_eq_true (by first | (with_reducible assumption) | assumption);obtain ⟨ad104,A104_0,c104_0,e104,hx104_0,hl104_0,hi104_0⟩ := at_L2 HR0_1.out 0 p104 q104;cases e104;have qi104 : (0 < l0_1.length) = True := eq_true (by omega);(try rw [show ((0 : Int)).toNat = 0 from rfl] at hx104_0);(try rw [Addr.add_zero'] at hx104_0);replace hx104_0 := (HB.out.cell (World.block_lt_of_cell? w _ hx104_0)).trans hx104_0;have HR104_0 := Aside0.mk hi104_0;have HC104_0 := Aside0.mk hl104_0;clear hi104_0 hl104_0;replace p104 := eq_true p104;replace q104 := eq_true q104
       go_wp2
       go_loopg [7,8,9,10] kj2 (fun kq v7 v8 v9 v10 w' => ∃ (x7_2 : Int) (x8_2 : Int) (x9_2 : Int) (x10_2 : Int),v7 = .int .i64 x7_2 ∧ v8 = .int .i64 x8_2 ∧ v9 = .int .i64 x9_2 ∧ v10 = .int .i64 x10_2 ∧ Aside0 (spec_ReadSights.l0 kq l1 x7_2 x8_2 x9_2 x10_2 l0_0 l0_1 = some (r1,r2,r3)) ∧ Aside0 (kq ≤ kj2) ∧ Aside0 (w'.heap[gb101]? = some (.cells #[(.slice A0_0 l0_0.length c0_0),(.slice (some ad104) l0_1.length c0_1)] 33 (0,0))) ∧ Aside0 (Below w.heap.size w w'))
       case atStart => exact ⟨(0),((-1)),(0),(0),(by first | rfl | (simp only [IntKind.wrap_i64,wrap64];done) | (simp;done) | (simp [*];done)),(by first | rfl | (simp only [IntKind.wrap_i64,wrap64];done) | (simp;done) | (simp [*];done)),(by first | rfl | (simp only [IntKind.wrap_i64,wrap64];done) | (simp;done) | (simp [*];done)),(by first | rfl | (simp only [IntKind.wrap_i64,wrap64];done) | (simp;done) | (simp [*];done)),H',⟨Nat.le_refl _⟩,⟨by (with_reducible repeat (first | refine blk_drewN ?_ _ | refine blk_drew ?_ | refine blk_alloc ?_ _));exact BK101.out⟩,⟨by repeat (first | (with_reducible first | exact HB.out | apply below_alloc | apply pw_below_drewN | apply below_drew1 | refine below_set ?_ GE101.out) | exact HB.out)⟩⟩
       case round =>
        clear H';(try clear c1);(try clear p1);(try clear q1);(try clear hx1);(try clear qi1);(try clear c2);(try clear p2);(try clear c4);(try clear c6);(try clear c10);(try clear p10);(try clear q10);(try clear hx10);(try clear qi10);(try clear c11);(try clear c11b0);(try clear c11b1);(try clear c11b2);(try clear c13);(try clear c13b0);(try clear c13b1);(try clear c14);(try clear c14b0);(try clear c14b1);(try clear c14b2);(try clear hcz12_0);(try clear hcz12_1);(try clear hcz15_0);(try clear hcz15_1);(try clear hfz12_0);(try clear hfz12_1);(try clear hfz15_0);(try clear hfz15_1);(try clear hx104_0);(try clear p104);(try clear p2);(try clear q104);obtain ⟨x7_2,x8_2,x9_2,x10_2,rfl,rfl,rfl,rfl,HA,HK2,BK101,HB⟩ := hrel
        cases gk with
        | zero => exact absurd HA.out (by simp [spec_ReadSights.l0])
        | succ k2 =>
         have H := HA.out;clear HA;simp only [spec_ReadSights.l0] at H
         by_cases c16 : x10_2 < (l0_1.length : Int)
         ·rw [if_pos c16] at H;have c16b0 : decide (x10_2 < (l0_1.length : Int)) = true := decide_eq_true c16;clear c16;replace H := Option.bind_eq_some_iff.mp H;obtain ⟨t105,A170,H⟩ := H;replace H : ((spec_l05Far.f t105 l1).bind fun t108 => (if x8_2 < 0 then (spec_ReadSights.j2 k2 l1 x7_2 x8_2 x9_2 x10_2 t108 true l0_0 l0_1) else (spec_ReadSights.j2 k2 l1 x7_2 x8_2 x9_2 x10_2 t108 (decide (t108 < x8_2)) l0_0 l0_1))) = some (r1,r2,r3) := H;have A17 := Aside0.mk A170;clear A170;replace H := Option.bind_eq_some_iff.mp H;obtain ⟨t108,A180,H⟩ := H;replace H : (if x8_2 < 0 then (spec_ReadSights.j2 k2 l1 x7_2 x8_2 x9_2 x10_2 t108 true l0_0 l0_1) else (spec_ReadSights.j2 k2 l1 x7_2 x8_2 x9_2 x10_2 t108 (decide (t108 < x8_2)) l0_0 l0_1)) = some (r1,r2,r3) := H;have A18 := Aside0.mk A180;clear A180;have HC19 := Aside0.mk H;clear H;have hcz20_0 : wr.cell? ⟨gb101,0,none⟩ = some (.slice A0_0 l0_0.length c0_0) := (blk_cell BK101.out 0).trans rfl;have hcz20_1 : wr.cell? ⟨gb101,1,none⟩ = some (.slice (some ad104) l0_1.length c0_1) := (blk_cell BK101.out 1).trans rfl;have hfz20_0 := blk_frozen BK101.out 0;have hfz20_1 := blk_frozen BK101.out 1
          go_upto_region 14 with (first | ((with_reducible refine gate_callee (f := 42) rfl ?_);refine goesL_ (some 39) rfl rfl Try.func42 (by kernel_rfl) rfl #[.pointer (some ⟨gb101,0,none⟩),.int .i64 x10_2] rfl (by (try simp only [List.map_toArray,List.map_cons,List.map_nil]);first | done | rfl | (simp only [List.length_drop,List.length_take];rfl)) ?_;(with_reducible refine (spec_l05Sights.calls A0_0 c0_0 l0_0 (some ad104) c0_1 l0_1 x10_2 t105 _ ?side1 ?side2 ?side3 ?side4 ?side5 A17.out).mono ?_);(case side1 => repeat (first | exact (Kd.C_below HR0_0.out HB.out) | (with_reducible refine Kd.C_alloc ?_ _) | (with_reducible refine Kd.C_drewN ?_ _) | (with_reducible refine Kd.C_drew ?_)));(case side2 => exact HC0_0.out);(case side3 => repeat (first | exact (Kd.C_below HR0_1.out HB.out) | (with_reducible refine Kd.C_alloc ?_ _) | (with_reducible refine Kd.C_drewN ?_ _) | (with_reducible refine Kd.C_drew ?_)));(case side4 => exact HC0_1.out);(case side5 => exact (by (with_reducible repeat (first | refine blk_drewN ?_ _ | refine blk_drew ?_ | refine blk_alloc ?_ _));exact BK101.out));rintro e w21 ⟨v106,rfl,ho0,hb⟩;refine ⟨_,rfl,?_⟩;have n0_ := Aside0.mk (Kd.R_lower ho0 (below_size (by repeat (first | (with_reducible first | exact HB.out | apply below_alloc | apply pw_below_drewN | apply below_drew1 | refine below_set ?_ GE101.out) | exact HB.out))));have n1_ := Aside0.mk (blk_below (g := gb101) (o := .cells #[.slice A0_0 l0_0.length c0_0,.slice (some ad104) l0_1.length c0_1] 33 (0,0)) (by (with_reducible repeat (first | refine blk_drewN ?_ _ | refine blk_drew ?_ | refine blk_alloc ?_ _));exact BK101.out) hb);have n2_ := Aside0.mk (below_step (by repeat (first | (with_reducible first | exact HB.out | apply below_alloc | apply pw_below_drewN | apply below_drew1 | refine below_set ?_ GE101.out) | exact HB.out)) hb);clear BK101;clear HB;have HO107 := n0_;have BK101 := n1_;have HB := n2_;clear n0_ n1_ n2_;(try clear hb);(try clear hb2);(try clear hk);(try clear hi);(try clear ho0);obtain ⟨Ao22,co22,eo22⟩ := Kd.R_slice HO107.out;subst eo22) | ((with_reducible refine gate_callee (f := 53) rfl ?_);refine goesL_ (some 41) rfl rfl Try.func53 (by kernel_rfl) rfl #[.slice Ao22 t105.length co22,.slice A1 l1.length c1] rfl (by (try simp only [List.map_toArray,List.map_cons,List.map_nil]);first | done | rfl | (simp only [List.length_drop,List.length_take];rfl)) ?_;(with_reducible refine (spec_l05Far.calls _ _ t105 _ _ l1 t108 _ ?side1 ?side2 ?side3 ?side4 A18.out).mono ?_);(case side1 => repeat (first | exact (Kd.R_reads' HO107.out).2.2 | (with_reducible refine Kd.C_alloc ?_ _) | (with_reducible refine Kd.C_drewN ?_ _) | (with_reducible refine Kd.C_drew ?_)));(case side2 => exact (Kd.R_reads' HO107.out).2.1);(case side3 => repeat (first | exact (Kd.C_below HR1.out HB.out) | (with_reducible refine Kd.C_alloc ?_ _) | (with_reducible refine Kd.C_drewN ?_ _) | (with_reducible refine Kd.C_drew ?_)));(case side4 => exact HC1.out);rintro e w' ⟨rfl,⟨nd,rfl⟩⟩;refine ⟨_,rfl,?_⟩))
          (try simp only [Act.put,List.setIfInBounds_toArray,List.set_cons_zero,List.set_cons_succ])
          go_cut [48] (fun v48 wc => ∃ (kq : Nat) (x48_18 : Bool),v48 = .bool x48_18 ∧ Aside0 (spec_ReadSights.j2 kq l1 x7_2 x8_2 x9_2 x10_2 t108 x48_18 l0_0 l0_1 = some (r1,r2,r3)) ∧ Aside0 (kq ≤ k2) ∧ Aside0 (wc.heap[gb101]? = some (.cells #[(.slice A0_0 l0_0.length c0_0),(.slice (some ad104) l0_1.length c0_1)] 33 (0,0))) ∧ Aside0 (Below w.heap.size w wc))
          case first =>
           have H := HC19.out;clear HC19
           by_cases c23 : x8_2 < 0
           ·rw [if_pos c23] at H;have c23b0 : decide (x8_2 < 0) = true := decide_eq_true c23;clear c23;(first | rw [c23b0] | (simp only [i64_w,i32_w];rw [c23b0]) | skip);have H' := Aside0.mk H;clear H
            go_wp2
            go_meet
            case rel => exact ⟨_,(true),(by first | rfl | (simp only [IntKind.wrap_i64,wrap64];done) | (simp;done) | (simp [*];done)),H',⟨by have := HJ2.out;have := HK2.out;first | omega | exact Nat.le_refl _⟩,⟨by (with_reducible repeat (first | refine blk_drewN ?_ _ | refine blk_drew ?_ | refine blk_alloc ?_ _));exact BK101.out⟩,⟨by repeat (first | (with_reducible first | exact HB.out | apply below_alloc | apply pw_below_drewN | apply below_drew1 | refine below_set ?_ GE101.out) | exact HB.out)⟩⟩
           ·rw [if_neg c23] at H;have c23b0 : decide (x8_2 < 0) = false := decide_eq_false c23;clear c23;(first | rw [c23b0] | (simp only [i64_w,i32_w];rw [c23b0]) | skip);have H' := Aside0.mk H;clear H
            go_wp2
            go_meet
            case rel => exact ⟨_,(decide (t108 < x8_2)),(by first | rfl | (simp only [IntKind.wrap_i64,wrap64];done) | (simp;done) | (simp [*];done)),H',⟨by have := HJ2.out;have := HK2.out;first | omega | exact Nat.le_refl _⟩,⟨by (with_reducible repeat (first | refine blk_drewN ?_ _ | refine blk_drew ?_ | refine blk_alloc ?_ _));exact BK101.out⟩,⟨by repeat (first | (with_reducible first | exact HB.out | apply below_alloc | apply pw_below_drewN | apply below_drew1 | refine below_set ?_ GE101.out) | exact HB.out)⟩⟩
          case rest =>
           clear HC19;(try clear c1);(try clear p1);(try clear q1);(try clear hx1);(try clear qi1);(try clear c2);(try clear p2);(try clear c4);(try clear c5);(try clear c6);(try clear c10);(try clear p10);(try clear q10);(try clear hx10);(try clear qi10);(try clear c11);(try clear c11b0);(try clear c11b1);(try clear c11b2);(try clear c13);(try clear c13b0);(try clear c13b1);(try clear c14);(try clear c14b0);(try clear c14b1);(try clear c14b2);(try clear c16);(try clear c16b0);(try clear c20);(try clear c23);(try clear c23b0);(try clear hcz12_0);(try clear hcz12_1);(try clear hcz15_0);(try clear hcz15_1);(try clear hcz20_0);(try clear hcz20_1);(try clear hfz12_0);(try clear hfz12_1);(try clear hfz15_0);(try clear hfz15_1);(try clear hfz20_0);(try clear hfz20_1);(try clear hx104_0);(try clear p1);(try clear p10);(try clear p104);(try clear p2);(try clear q1);(try clear q10);(try clear q104);obtain ⟨kq,x48_18,rfl,HA,HJ18,BK101,HB⟩ := hcut
           cases kq with
           | zero => exact absurd HA.out (by simp [spec_ReadSights.j2])
           | succ kj18 =>
            have H := HA.out;clear HA;simp only [spec_ReadSights.j2] at H
            by_cases c24 : x48_18 = true
            ·subst c24
             have H1 : (if t108 = t108 then (spec_ReadSights.l0 kj18 l1 x10_2 t108 1 (wrap64 (x10_2 + 1)) l0_0 l0_1) else (spec_ReadSights.l0 kj18 l1 x10_2 t108 0 (wrap64 (x10_2 + 1)) l0_0 l0_1)) = some (r1,r2,r3) := by first | (rw [if_pos rfl] at H;exact H) | simpa using H
             clear H;have H := H1;clear H1
             by_cases c25 : t108 = t108
             ·rw [if_pos c25] at H;have c25b0 : (t108 == t108) = true := beq_iff_eq.mpr c25;have c25b1 : (t108 != t108) = false := bne_eq_false_iff_eq.mpr c25;clear c25;have H' := Aside0.mk H;clear H
              go_wp2
              go_roundg kj18
              case measure => have := HJ2.out;have := HK2.out;have := HJ18.out;omega
              case rel => exact ⟨(x10_2),(t108),(1),(wrap64 (x10_2 + 1)),(by first | rfl | (simp only [IntKind.wrap_i64,wrap64];done) | (simp;done) | (simp [*];done)),(by first | rfl | (simp only [IntKind.wrap_i64,wrap64];done) | (simp;done) | (simp [*];done)),(by first | rfl | (simp only [IntKind.wrap_i64,wrap64];done) | (simp;done) | (simp [*];done)),(by first | rfl | (simp only [IntKind.wrap_i64,wrap64];done) | (simp;done) | (simp [*];done)),H',⟨by have := HJ2.out;have := HK2.out;have := HJ18.out;omega⟩,⟨by (with_reducible repeat (first | refine blk_drewN ?_ _ | refine blk_drew ?_ | refine blk_alloc ?_ _));exact BK101.out⟩,⟨by repeat (first | (with_reducible first | exact HB.out | apply below_alloc | apply pw_below_drewN | apply below_drew1 | refine below_set ?_ GE101.out) | exact HB.out)⟩⟩
             ·exact absurd rfl c25
            ·replace c24 := Bool.eq_false_iff.mpr c24;subst c24
             have H1 : (if t108 = x8_2 then (spec_ReadSights.l0 kj18 l1 x7_2 x8_2 (wrap64 (x9_2 + 1)) (wrap64 (x10_2 + 1)) l0_0 l0_1) else (spec_ReadSights.l0 kj18 l1 x7_2 x8_2 x9_2 (wrap64 (x10_2 + 1)) l0_0 l0_1)) = some (r1,r2,r3) := by rw [if_neg (show ¬ (false = true) by decide)] at H;exact H
             clear H;have H := H1;clear H1
             by_cases c26 : t108 = x8_2
             ·rw [if_pos c26] at H;have c26b0 : (t108 == x8_2) = true := beq_iff_eq.mpr c26;have c26b1 : (t108 != x8_2) = false := bne_eq_false_iff_eq.mpr c26;clear c26;have H' := Aside0.mk H;clear H
              go_wp2
              go_roundg kj18
              case measure => have := HJ2.out;have := HK2.out;have := HJ18.out;omega
              case rel => exact ⟨(x7_2),(x8_2),(wrap64 (x9_2 + 1)),(wrap64 (x10_2 + 1)),(by first | rfl | (simp only [IntKind.wrap_i64,wrap64];done) | (simp;done) | (simp [*];done)),(by first | rfl | (simp only [IntKind.wrap_i64,wrap64];done) | (simp;done) | (simp [*];done)),(by first | rfl | (simp only [IntKind.wrap_i64,wrap64];done) | (simp;done) | (simp [*];done)),(by first | rfl | (simp only [IntKind.wrap_i64,wrap64];done) | (simp;done) | (simp [*];done)),H',⟨by have := HJ2.out;have := HK2.out;have := HJ18.out;omega⟩,⟨by (with_reducible repeat (first | refine blk_drewN ?_ _ | refine blk_drew ?_ | refine blk_alloc ?_ _));exact BK101.out⟩,⟨by repeat (first | (with_reducible first | exact HB.out | apply below_alloc | apply pw_below_drewN | apply below_drew1 | refine below_set ?_ GE101.out) | exact HB.out)⟩⟩
             ·rw [if_neg c26] at H;have c26b0 : (t108 == x8_2) = false := beq_eq_false_iff_ne.mpr c26;have c26b1 : (t108 != x8_2) = true := bne_iff_ne.mpr c26;have H' := Aside0.mk H;clear H
              go_wp2
              go_roundg kj18
              case measure => have := HJ2.out;have := HK2.out;have := HJ18.out;omega
              case rel => exact ⟨(x7_2),(x8_2),(x9_2),(wrap64 (x10_2 + 1)),(by first | rfl | (simp only [IntKind.wrap_i64,wrap64];done) | (simp;done) | (simp [*];done)),(by first | rfl | (simp only [IntKind.wrap_i64,wrap64];done) | (simp;done) | (simp [*];done)),(by first | rfl | (simp only [IntKind.wrap_i64,wrap64];done) | (simp;done) | (simp [*];done)),(by first | rfl | (simp only [IntKind.wrap_i64,wrap64];done) | (simp;done) | (simp [*];done)),H',⟨by have := HJ2.out;have := HK2.out;have := HJ18.out;omega⟩,⟨by (with_reducible repeat (first | refine blk_drewN ?_ _ | refine blk_drew ?_ | refine blk_alloc ?_ _));exact BK101.out⟩,⟨by repeat (first | (with_reducible first | exact HB.out | apply below_alloc | apply pw_below_drewN | apply below_drew1 | refine below_set ?_ GE101.out) | exact HB.out)⟩⟩
         ·rw [if_neg c16] at H;have c16b0 : decide (x10_2 < (l0_1.length : Int)) = false := decide_eq_false c16;clear c16
          by_cases c27 : x9_2 > 1
          ·rw [if_pos c27] at H;have c27b0 : decide (1 < x9_2) = true := decide_eq_true c27;clear c27;simp only [Option.some.injEq,Prod.mk.injEq] at H;obtain ⟨rfl,rfl,rfl⟩ := H;have hcz28_0 : wr.cell? ⟨gb101,0,none⟩ = some (.slice A0_0 l0_0.length c0_0) := (blk_cell BK101.out 0).trans rfl;have hcz28_1 : wr.cell? ⟨gb101,1,none⟩ = some (.slice (some ad104) l0_1.length c0_1) := (blk_cell BK101.out 1).trans rfl;have hfz28_0 := blk_frozen BK101.out 0;have hfz28_1 := blk_frozen BK101.out 1
           go_wp2
           go_ret3
           exact ⟨by first | rfl | (simp [errW_none,errW_some,IntKind.wrap_i64,wrap64];done) | (simp [errW_none,errW_some] <;> rfl) | (simp [*,errW_none,errW_some] <;> rfl),by repeat (first | (with_reducible first | exact HB.out | apply below_alloc | apply pw_below_drewN | apply below_drew1 | refine below_set ?_ GE101.out) | exact HB.out)⟩
          ·rw [if_neg c27] at H;have c27b0 : decide (1 < x9_2) = false := decide_eq_false c27;clear c27;simp only [Option.some.injEq,Prod.mk.injEq] at H;obtain ⟨rfl,rfl,rfl⟩ := H;have hcz29_0 : wr.cell? ⟨gb101,0,none⟩ = some (.slice A0_0 l0_0.length c0_0) := (blk_cell BK101.out 0).trans rfl;have hcz29_1 : wr.cell? ⟨gb101,1,none⟩ = some (.slice (some ad104) l0_1.length c0_1) := (blk_cell BK101.out 1).trans rfl;have hfz29_0 := blk_frozen BK101.out 0;have hfz29_1 := blk_frozen BK101.out 1
           go_wp2
           go_ret3
           exact ⟨by first | rfl | (simp [errW_none,errW_some,IntKind.wrap_i64,wrap64];done) | (simp [errW_none,errW_some] <;> rfl) | (simp [*,errW_none,errW_some] <;> rfl),by repeat (first | (with_reducible first | exact HB.out | apply below_alloc | apply pw_below_drewN | apply below_drew1 | refine below_set ?_ GE101.out) | exact HB.out)⟩
      ·rw [if_neg c14] at H;have c14b0 : ((l1.length : Int) == ((rd_L2 l0_1 0).length : Int)) = false := beq_eq_false_iff_ne.mpr c14;have c14b1 : ((l1.length : Int) != ((rd_L2 l0_1 0).length : Int)) = true := bne_iff_ne.mpr c14
       have c14b2 : (l1.length == (rd_L2 l0_1 0).length) = false := by first | simpa using c14 | (simp at c14 ⊢;omega)
       simp only [Option.some.injEq,Prod.mk.injEq] at H;obtain ⟨rfl,rfl,rfl⟩ := H;have hcz30_0 : wc.cell? ⟨gb101,0,none⟩ = some (.slice A0_0 l0_0.length c0_0) := (blk_cell BK101.out 0).trans rfl;have hcz30_1 : wc.cell? ⟨gb101,1,none⟩ = some (.slice A0_1 l0_1.length c0_1) := (blk_cell BK101.out 1).trans rfl;have hfz30_0 := blk_frozen BK101.out 0;have hfz30_1 := blk_frozen BK101.out 1;have p104 : 0 ≤ (0 : Int) := (by omega);have q104 : 0 < (l0_1.length : Int) := of_decide_eq_true (by first | (with_reducible assumption) | assumption);obtain ⟨ad104,A104_0,c104_0,e104,hx104_0,hl104_0,hi104_0⟩ := at_L2 HR0_1.out 0 p104 q104;cases e104;have qi104 : (0 < l0_1.length) = True := eq_true (by omega);(try rw [show ((0 : Int)).toNat = 0 from rfl] at hx104_0);(try rw [Addr.add_zero'] at hx104_0);replace hx104_0 := (HB.out.cell (World.block_lt_of_cell? w _ hx104_0)).trans hx104_0;have HR104_0 := Aside0.mk hi104_0;have HC104_0 := Aside0.mk hl104_0;clear hi104_0 hl104_0;replace p104 := eq_true p104;replace q104 := eq_true q104
       go_wp2
       go_ret3
       exact ⟨by first | rfl | (simp [errW_none,errW_some,IntKind.wrap_i64,wrap64];done) | (simp [errW_none,errW_some] <;> rfl) | (simp [*,errW_none,errW_some] <;> rfl),by repeat (first | (with_reducible first | exact HB.out | apply below_alloc | apply pw_below_drewN | apply below_drew1 | refine below_set ?_ GE101.out) | exact HB.out)⟩
     ·rw [if_neg c13] at H;exact absurd H (by simp)
end Go.Proofs.Ytgfknljhogfeaaa.G
end

section
namespace Go.Proofs.Ytgfknljhogfeaaa.G
open Go.RowKit Go.Proofs.YtgfknljhogfeaaaW.PrintWords Go.Proofs.YtgfknljhogfeaaaW.PrintLast Go.Proofs.YtgfknljhogfeaaaW.PrintMore
attribute [local go_sem] max2_int min2_int max_two min_two max_three min_three max_four min_four
set_option linter.unusedVariables false
set_option linter.unusedSimpArgs false
def laws_FnExactReadSights.j0 : Nat → List (S60) → List (S61) → Bool → List (S67) → List (List Int) → List (S68) → List (List Int) → Option (Bool)
 | 0,_,_,_,_,_,_,_ => none
 | k + 1,x1,x10,x56,x102000,x102001,x123000,x123001 => if x56 = true then (some false) else ((laws_toCode.f k x102000 x102001).bind fun bt129 => ((laws_eqCode.f k x123000 x123001 bt129.1 bt129.2).bind fun t135 => (if t135 = true then ((laws_toSightS.f x1).bind fun t136 => ((laws_eqSightS.f x10 t136).bind fun t139 => (if t139 = true then (some true) else (some false)))) else (some false))))
def laws_FnExactReadSights.f (k : Nat) (l0_0 : List (S67)) (l0_1 : List (List Int)) (l1 : List (S60)) : Option (Bool) := (laws_szCode.f k l0_0 l0_1 1048576).bind fun t102 => (if t102 < 0 then (some true) else ((laws_szSightS.f l1 t102).bind fun t103 => (if t103 < 0 then (some true) else ((laws_toCode.f k l0_0 l0_1).bind fun bt104 => ((laws_toSightS.f l1).bind fun t110 => ((spec_ReadSights.f k bt104.1 bt104.2 t110).bind fun bt113 => ((laws_toCode.f k l0_0 l0_1).bind fun bt116 => ((laws_toSightS.f l1).bind fun t123 => ((impl_ReadSights.f k bt116.1 bt116.2 t123).bind fun bt126 => (if bt126.1 = bt113.1 then (if bt126.2.1 = bt113.2.1 then (laws_FnExactReadSights.j0 k l1 t123 (bt126.2.2 != bt113.2.2) l0_0 l0_1 bt116.1 bt116.2) else (laws_FnExactReadSights.j0 k l1 t123 true l0_0 l0_1 bt116.1 bt116.2)) else (laws_FnExactReadSights.j0 k l1 t123 true l0_0 l0_1 bt116.1 bt116.2)))))))))))
set_option maxHeartbeats 8000000 in
set_option maxRecDepth 100000 in
theorem laws_FnExactReadSights.calls (k : Nat) (A0_0 : Option Addr) (c0_0 : Nat) (l0_0 : List (S67)) (A0_1 : Option Addr) (c0_1 : Nat) (l0_1 : List (List Int)) (A1 : Option Addr) (c1 : Nat) (l1 : List (S60)) (r : Bool) (w : World) (hr0_0 : Kd.C k67 w A0_0 l0_0.length l0_0) (hc0_0 : l0_0.length ≤ c0_0) (hr0_1 : Kd.C (Kd.slice 5 (Kd.int .u8)) w A0_1 l0_1.length l0_1) (hc0_1 : l0_1.length ≤ c0_1) (hr1 : Kd.C k60 w A1 l1.length l1) (hc1 : l1.length ≤ c1) (h : laws_FnExactReadSights.f k l0_0 l0_1 l1 = some r) :
  Calls Try.prog 5 #[.agg #[.slice A0_0 l0_0.length c0_0,.slice A0_1 l0_1.length c0_1],.slice A1 l1.length c1] w fun e w' => e = .returned (.bool r) ∧ Below w.heap.size w w' := by
 have hu25 := Try.underlying25;have hu33 := Try.underlying33;have HR0_0 := Aside0.mk hr0_0;have HC0_0 := Aside0.mk hc0_0;clear hr0_0 hc0_0;have HR0_1 := Aside0.mk hr0_1;have HC0_1 := Aside0.mk hc0_1;clear hr0_1 hc0_1;have HR1 := Aside0.mk hr1;have HC1 := Aside0.mk hc1;clear hr1 hc1;have HB := Aside0.mk (Below.refl w.heap.size w);have H : ((laws_szCode.f k l0_0 l0_1 1048576).bind fun t102 => (if t102 < 0 then (some true) else ((laws_szSightS.f l1 t102).bind fun t103 => (if t103 < 0 then (some true) else ((laws_toCode.f k l0_0 l0_1).bind fun bt104 => ((laws_toSightS.f l1).bind fun t110 => ((spec_ReadSights.f k bt104.1 bt104.2 t110).bind fun bt113 => ((laws_toCode.f k l0_0 l0_1).bind fun bt116 => ((laws_toSightS.f l1).bind fun t123 => ((impl_ReadSights.f k bt116.1 bt116.2 t123).bind fun bt126 => (if bt126.1 = bt113.1 then (if bt126.2.1 = bt113.2.1 then (laws_FnExactReadSights.j0 k l1 t123 (bt126.2.2 != bt113.2.2) l0_0 l0_1 bt116.1 bt116.2) else (laws_FnExactReadSights.j0 k l1 t123 true l0_0 l0_1 bt116.1 bt116.2)) else (laws_FnExactReadSights.j0 k l1 t123 true l0_0 l0_1 bt116.1 bt116.2)))))))))))) = some r := h;clear h;replace H := Option.bind_eq_some_iff.mp H;obtain ⟨t102,A30,H⟩ := H;replace H : (if t102 < 0 then (some true) else ((laws_szSightS.f l1 t102).bind fun t103 => (if t103 < 0 then (some true) else ((laws_toCode.f k l0_0 l0_1).bind fun bt104 => ((laws_toSightS.f l1).bind fun t110 => ((spec_ReadSights.f k bt104.1 bt104.2 t110).bind fun bt113 => ((laws_toCode.f k l0_0 l0_1).bind fun bt116 => ((laws_toSightS.f l1).bind fun t123 => ((impl_ReadSights.f k bt116.1 bt116.2 t123).bind fun bt126 => (if bt126.1 = bt113.1 then (if bt126.2.1 = bt113.2.1 then (laws_FnExactReadSights.j0 k l1 t123 (bt126.2.2 != bt113.2.2) l0_0 l0_1 bt116.1 bt116.2) else (laws_FnExactReadSights.j0 k l1 t123 true l0_0 l0_1 bt116.1 bt116.2)) else (laws_FnExactReadSights.j0 k l1 t123 true l0_0 l0_1 bt116.1 bt116.2))))))))))) = some r := H;have A3 := Aside0.mk A30;clear A30
 by_cases c4 : t102 < 0
 ·rw [if_pos c4] at H;have c4b0 : decide (t102 < 0) = true := decide_eq_true c4;clear c4;obtain rfl := Option.some.inj H
  go_enter Try.func5,Try.ntmps5
  go_wp2_with (first | ((with_reducible refine gate_dst (N := 2) rfl ?_);refine box_event ?hg (N := 2) ?hd (cs := #[.slice A0_0 l0_0.length c0_0,.slice A0_1 l0_1.length c0_1]) (t := 25) ?hr ?_;(case hd => rfl);(case hg => rfl);(case hr => first | (go_simp;done) | (go_simp;rfl));intro gb101 hg w5 hbox hb;have n0_ := Aside0.mk (below_step (by repeat (first | (with_reducible first | exact HB.out | apply below_alloc | apply pw_below_drewN | apply below_drew1) | exact HB.out)) hb);have n1_ := Aside0.mk (hbox);have n2_ := Aside0.mk ((by rw [hg];exact (below_size (by repeat (first | (with_reducible first | exact HB.out | apply below_alloc | apply pw_below_drewN | apply below_drew1) | exact HB.out))) : w.heap.size ≤ gb101));have n3_ := Aside0.mk ((by rw [hg];exact (below_size (by repeat (first | (with_reducible first | exact HB.out | apply below_alloc | apply pw_below_drewN | apply below_drew1) | exact HB.out))) : w.heap.size ≤ gb101));clear HB;have HB := n0_;have BK101 := n1_;have GW101 := n2_;have GE101 := n3_;clear n0_ n1_ n2_ n3_;clear hb hbox hg;have hcz6_0 : w5.cell? ⟨gb101,0,none⟩ = some (.slice A0_0 l0_0.length c0_0) := (blk_cell BK101.out 0).trans rfl;have hcz6_1 : w5.cell? ⟨gb101,1,none⟩ = some (.slice A0_1 l0_1.length c0_1) := (blk_cell BK101.out 1).trans rfl;have hfz6_0 := blk_frozen BK101.out 0;have hfz6_1 := blk_frozen BK101.out 1) | ((with_reducible refine gate_callee (f := 8) rfl ?_);refine goesL_ (some 16) rfl rfl Try.func8 (by kernel_rfl) rfl #[.agg #[.slice A0_0 l0_0.length c0_0,.slice A0_1 l0_1.length c0_1],.int .i64 1048576] rfl (by (try simp only [List.map_toArray,List.map_cons,List.map_nil]);first | done | rfl | (simp only [List.length_drop,List.length_take];rfl)) ?_;(with_reducible refine (laws_szCode.calls k _ _ l0_0 _ _ l0_1 1048576 t102 _ ?side1 ?side2 ?side3 ?side4 A3.out).mono ?_);(case side1 => repeat (first | exact (Kd.C_below HR0_0.out HB.out) | (with_reducible refine Kd.C_alloc ?_ _) | (with_reducible refine Kd.C_drewN ?_ _) | (with_reducible refine Kd.C_drew ?_)));(case side2 => exact HC0_0.out);(case side3 => repeat (first | exact (Kd.C_below HR0_1.out HB.out) | (with_reducible refine Kd.C_alloc ?_ _) | (with_reducible refine Kd.C_drewN ?_ _) | (with_reducible refine Kd.C_drew ?_)));(case side4 => exact HC0_1.out);rintro e w7 ⟨rfl,hb⟩;refine ⟨_,rfl,?_⟩;have n0_ := Aside0.mk (blk_below (g := gb101) (o := .cells #[.slice A0_0 l0_0.length c0_0,.slice A0_1 l0_1.length c0_1] 25 (0,0)) (by (with_reducible repeat (first | refine blk_drewN ?_ _ | refine blk_drew ?_ | refine blk_alloc ?_ _));exact BK101.out) hb);have n1_ := Aside0.mk (below_step (by repeat (first | (with_reducible first | exact HB.out | apply below_alloc | apply pw_below_drewN | apply below_drew1 | refine below_set ?_ GE101.out) | exact HB.out)) hb);clear BK101;clear HB;have BK101 := n0_;have HB := n1_;clear n0_ n1_;(try clear hb);(try clear hb2);(try clear hk);(try clear hi)))
  go_ret
  exact ⟨by first | rfl | (simp [errW_none,errW_some,IntKind.wrap_i64,wrap64];done) | (simp [errW_none,errW_some] <;> rfl) | (simp [*,errW_none,errW_some] <;> rfl),by repeat (first | (with_reducible first | exact HB.out | apply below_alloc | apply pw_below_drewN | apply below_drew1 | refine below_set ?_ GE101.out) | exact HB.out)⟩
 ·rw [if_neg c4] at H;have c4b0 : decide (t102 < 0) = false := decide_eq_false c4;clear c4;replace H := Option.bind_eq_some_iff.mp H;obtain ⟨t103,A80,H⟩ := H;replace H : (if t103 < 0 then (some true) else ((laws_toCode.f k l0_0 l0_1).bind fun bt104 => ((laws_toSightS.f l1).bind fun t110 => ((spec_ReadSights.f k bt104.1 bt104.2 t110).bind fun bt113 => ((laws_toCode.f k l0_0 l0_1).bind fun bt116 => ((laws_toSightS.f l1).bind fun t123 => ((impl_ReadSights.f k bt116.1 bt116.2 t123).bind fun bt126 => (if bt126.1 = bt113.1 then (if bt126.2.1 = bt113.2.1 then (laws_FnExactReadSights.j0 k l1 t123 (bt126.2.2 != bt113.2.2) l0_0 l0_1 bt116.1 bt116.2) else (laws_FnExactReadSights.j0 k l1 t123 true l0_0 l0_1 bt116.1 bt116.2)) else (laws_FnExactReadSights.j0 k l1 t123 true l0_0 l0_1 bt116.1 bt116.2))))))))) = some r := H;have A8 := Aside0.mk A80;clear A80
  by_cases c9 : t103 < 0
  ·rw [if_pos c9] at H;have c9b0 : decide (t103 < 0) = true := decide_eq_true c9;clear c9;obtain rfl := Option.some.inj H
   go_enter Try.func5,Try.ntmps5
   go_wp2_with (first | ((with_reducible refine gate_dst (N := 2) rfl ?_);refine box_event ?hg (N := 2) ?hd (cs := #[.slice A0_0 l0_0.length c0_0,.slice A0_1 l0_1.length c0_1]) (t := 25) ?hr ?_;(case hd => rfl);(case hg => rfl);(case hr => first | (go_simp;done) | (go_simp;rfl));intro gb101 hg w10 hbox hb;have n0_ := Aside0.mk (below_step (by repeat (first | (with_reducible first | exact HB.out | apply below_alloc | apply pw_below_drewN | apply below_drew1) | exact HB.out)) hb);have n1_ := Aside0.mk (hbox);have n2_ := Aside0.mk ((by rw [hg];exact (below_size (by repeat (first | (with_reducible first | exact HB.out | apply below_alloc | apply pw_below_drewN | apply below_drew1) | exact HB.out))) : w.heap.size ≤ gb101));have n3_ := Aside0.mk ((by rw [hg];exact (below_size (by repeat (first | (with_reducible first | exact HB.out | apply below_alloc | apply pw_below_drewN | apply below_drew1) | exact HB.out))) : w.heap.size ≤ gb101));clear HB;have HB := n0_;have BK101 := n1_;have GW101 := n2_;have GE101 := n3_;clear n0_ n1_ n2_ n3_;clear hb hbox hg;have hcz11_0 : w10.cell? ⟨gb101,0,none⟩ = some (.slice A0_0 l0_0.length c0_0) := (blk_cell BK101.out 0).trans rfl;have hcz11_1 : w10.cell? ⟨gb101,1,none⟩ = some (.slice A0_1 l0_1.length c0_1) := (blk_cell BK101.out 1).trans rfl;have hfz11_0 := blk_frozen BK101.out 0;have hfz11_1 := blk_frozen BK101.out 1) | ((with_reducible refine gate_callee (f := 8) rfl ?_);refine goesL_ (some 16) rfl rfl Try.func8 (by kernel_rfl) rfl #[.agg #[.slice A0_0 l0_0.length c0_0,.slice A0_1 l0_1.length c0_1],.int .i64 1048576] rfl (by (try simp only [List.map_toArray,List.map_cons,List.map_nil]);first | done | rfl | (simp only [List.length_drop,List.length_take];rfl)) ?_;(with_reducible refine (laws_szCode.calls k _ _ l0_0 _ _ l0_1 1048576 t102 _ ?side1 ?side2 ?side3 ?side4 A3.out).mono ?_);(case side1 => repeat (first | exact (Kd.C_below HR0_0.out HB.out) | (with_reducible refine Kd.C_alloc ?_ _) | (with_reducible refine Kd.C_drewN ?_ _) | (with_reducible refine Kd.C_drew ?_)));(case side2 => exact HC0_0.out);(case side3 => repeat (first | exact (Kd.C_below HR0_1.out HB.out) | (with_reducible refine Kd.C_alloc ?_ _) | (with_reducible refine Kd.C_drewN ?_ _) | (with_reducible refine Kd.C_drew ?_)));(case side4 => exact HC0_1.out);rintro e w12 ⟨rfl,hb⟩;refine ⟨_,rfl,?_⟩;have n0_ := Aside0.mk (blk_below (g := gb101) (o := .cells #[.slice A0_0 l0_0.length c0_0,.slice A0_1 l0_1.length c0_1] 25 (0,0)) (by (with_reducible repeat (first | refine blk_drewN ?_ _ | refine blk_drew ?_ | refine blk_alloc ?_ _));exact BK101.out) hb);have n1_ := Aside0.mk (below_step (by repeat (first | (with_reducible first | exact HB.out | apply below_alloc | apply pw_below_drewN | apply below_drew1 | refine below_set ?_ GE101.out) | exact HB.out)) hb);clear BK101;clear HB;have BK101 := n0_;have HB := n1_;clear n0_ n1_;(try clear hb);(try clear hb2);(try clear hk);(try clear hi)) | ((with_reducible refine gate_callee (f := 19) rfl ?_);refine goesL_ (some 21) rfl rfl Try.func19 (by kernel_rfl) rfl #[.slice A1 l1.length c1,.int .i64 t102] rfl (by (try simp only [List.map_toArray,List.map_cons,List.map_nil]);first | done | rfl | (simp only [List.length_drop,List.length_take];rfl)) ?_;(with_reducible refine (laws_szSightS.calls _ _ l1 t102 t103 _ ?side1 ?side2 A8.out).mono ?_);(case side1 => repeat (first | exact (Kd.C_below HR1.out HB.out) | (with_reducible refine Kd.C_alloc ?_ _) | (with_reducible refine Kd.C_drewN ?_ _) | (with_reducible refine Kd.C_drew ?_)));(case side2 => exact HC1.out);rintro e w' ⟨rfl,⟨nd,rfl⟩⟩;refine ⟨_,rfl,?_⟩))
   go_ret
   exact ⟨by first | rfl | (simp [errW_none,errW_some,IntKind.wrap_i64,wrap64];done) | (simp [errW_none,errW_some] <;> rfl) | (simp [*,errW_none,errW_some] <;> rfl),by repeat (first | (with_reducible first | exact HB.out | apply below_alloc | apply pw_below_drewN | apply below_drew1 | refine below_set ?_ GE101.out) | exact HB.out)⟩
  ·rw [if_neg c9] at H;have c9b0 : decide (t103 < 0) = false := decide_eq_false c9;clear c9;replace H := Option.bind_eq_some_iff.mp H;obtain ⟨⟨t104,t107⟩,A130,H⟩ := H;replace H : ((laws_toSightS.f l1).bind fun t110 => ((spec_ReadSights.f k t104 t107 t110).bind fun bt113 => ((laws_toCode.f k l0_0 l0_1).bind fun bt116 => ((laws_toSightS.f l1).bind fun t123 => ((impl_ReadSights.f k bt116.1 bt116.2 t123).bind fun bt126 => (if bt126.1 = bt113.1 then (if bt126.2.1 = bt113.2.1 then (laws_FnExactReadSights.j0 k l1 t123 (bt126.2.2 != bt113.2.2) l0_0 l0_1 bt116.1 bt116.2) else (laws_FnExactReadSights.j0 k l1 t123 true l0_0 l0_1 bt116.1 bt116.2)) else (laws_FnExactReadSights.j0 k l1 t123 true l0_0 l0_1 bt116.1 bt116.2))))))) = some r := H;have A13 := Aside0.mk A130;clear A130;replace H := Option.bind_eq_some_iff.mp H;obtain ⟨t110,A140,H⟩ := H;replace H : ((spec_ReadSights.f k t104 t107 t110).bind fun bt113 => ((laws_toCode.f k l0_0 l0_1).bind fun bt116 => ((laws_toSightS.f l1).bind fun t123 => ((impl_ReadSights.f k bt116.1 bt116.2 t123).bind fun bt126 => (if bt126.1 = bt113.1 then (if bt126.2.1 = bt113.2.1 then (laws_FnExactReadSights.j0 k l1 t123 (bt126.2.2 != bt113.2.2) l0_0 l0_1 bt116.1 bt116.2) else (laws_FnExactReadSights.j0 k l1 t123 true l0_0 l0_1 bt116.1 bt116.2)) else (laws_FnExactReadSights.j0 k l1 t123 true l0_0 l0_1 bt116.1 bt116.2)))))) = some r := H;have A14 := Aside0.mk A140;clear A140;replace H := Option.bind_eq_some_iff.mp H;obtain ⟨⟨t113,t114,t115⟩,A150,H⟩ := H;replace H : ((laws_toCode.f k l0_0 l0_1).bind fun bt116 => ((laws_toSightS.f l1).bind fun t123 => ((impl_ReadSights.f k bt116.1 bt116.2 t123).bind fun bt126 => (if bt126.1 = t113 then (if bt126.2.1 = t114 then (laws_FnExactReadSights.j0 k l1 t123 (bt126.2.2 != t115) l0_0 l0_1 bt116.1 bt116.2) else (laws_FnExactReadSights.j0 k l1 t123 true l0_0 l0_1 bt116.1 bt116.2)) else (laws_FnExactReadSights.j0 k l1 t123 true l0_0 l0_1 bt116.1 bt116.2))))) = some r := H;have A15 := Aside0.mk A150;clear A150;replace H := Option.bind_eq_some_iff.mp H;obtain ⟨⟨t116,t119⟩,A160,H⟩ := H;replace H : ((laws_toSightS.f l1).bind fun t123 => ((impl_ReadSights.f k t116 t119 t123).bind fun bt126 => (if bt126.1 = t113 then (if bt126.2.1 = t114 then (laws_FnExactReadSights.j0 k l1 t123 (bt126.2.2 != t115) l0_0 l0_1 t116 t119) else (laws_FnExactReadSights.j0 k l1 t123 true l0_0 l0_1 t116 t119)) else (laws_FnExactReadSights.j0 k l1 t123 true l0_0 l0_1 t116 t119)))) = some r := H;have A16 := Aside0.mk A160;clear A160;replace H := Option.bind_eq_some_iff.mp H;obtain ⟨t123,A170,H⟩ := H;replace H : ((impl_ReadSights.f k t116 t119 t123).bind fun bt126 => (if bt126.1 = t113 then (if bt126.2.1 = t114 then (laws_FnExactReadSights.j0 k l1 t123 (bt126.2.2 != t115) l0_0 l0_1 t116 t119) else (laws_FnExactReadSights.j0 k l1 t123 true l0_0 l0_1 t116 t119)) else (laws_FnExactReadSights.j0 k l1 t123 true l0_0 l0_1 t116 t119))) = some r := H;have A17 := Aside0.mk A170;clear A170;replace H := Option.bind_eq_some_iff.mp H;obtain ⟨⟨t126,t127,t128⟩,A180,H⟩ := H;replace H : (if t126 = t113 then (if t127 = t114 then (laws_FnExactReadSights.j0 k l1 t123 (t128 != t115) l0_0 l0_1 t116 t119) else (laws_FnExactReadSights.j0 k l1 t123 true l0_0 l0_1 t116 t119)) else (laws_FnExactReadSights.j0 k l1 t123 true l0_0 l0_1 t116 t119)) = some r := H;have A18 := Aside0.mk A180;clear A180;have HC19 := Aside0.mk H;clear H
   go_enter Try.func5,Try.ntmps5
   go_upto_region 12 with (first | ((with_reducible refine gate_dst (N := 2) rfl ?_);refine box_event ?hg (N := 2) ?hd (cs := #[.slice A0_0 l0_0.length c0_0,.slice A0_1 l0_1.length c0_1]) (t := 25) ?hr ?_;(case hd => rfl);(case hg => rfl);(case hr => first | (go_simp;done) | (go_simp;rfl));intro gb101 hg w20 hbox hb;have n0_ := Aside0.mk (below_step (by repeat (first | (with_reducible first | exact HB.out | apply below_alloc | apply pw_below_drewN | apply below_drew1) | exact HB.out)) hb);have n1_ := Aside0.mk (hbox);have n2_ := Aside0.mk ((by rw [hg];exact (below_size (by repeat (first | (with_reducible first | exact HB.out | apply below_alloc | apply pw_below_drewN | apply below_drew1) | exact HB.out))) : w.heap.size ≤ gb101));have n3_ := Aside0.mk ((by rw [hg];exact (below_size (by repeat (first | (with_reducible first | exact HB.out | apply below_alloc | apply pw_below_drewN | apply below_drew1) | exact HB.out))) : w.heap.size ≤ gb101));clear HB;have HB := n0_;have BK101 := n1_;have GW101 := n2_;have GE101 := n3_;clear n0_ n1_ n2_ n3_;clear hb hbox hg;have hcz21_0 : w20.cell? ⟨gb101,0,none⟩ = some (.slice A0_0 l0_0.length c0_0) := (blk_cell BK101.out 0).trans rfl;have hcz21_1 : w20.cell? ⟨gb101,1,none⟩ = some (.slice A0_1 l0_1.length c0_1) := (blk_cell BK101.out 1).trans rfl;have hfz21_0 := blk_frozen BK101.out 0;have hfz21_1 := blk_frozen BK101.out 1) | ((with_reducible refine gate_callee (f := 8) rfl ?_);refine goesL_ (some 16) rfl rfl Try.func8 (by kernel_rfl) rfl #[.agg #[.slice A0_0 l0_0.length c0_0,.slice A0_1 l0_1.length c0_1],.int .i64 1048576] rfl (by (try simp only [List.map_toArray,List.map_cons,List.map_nil]);first | done | rfl | (simp only [List.length_drop,List.length_take];rfl)) ?_;(with_reducible refine (laws_szCode.calls k _ _ l0_0 _ _ l0_1 1048576 t102 _ ?side1 ?side2 ?side3 ?side4 A3.out).mono ?_);(case side1 => repeat (first | exact (Kd.C_below HR0_0.out HB.out) | (with_reducible refine Kd.C_alloc ?_ _) | (with_reducible refine Kd.C_drewN ?_ _) | (with_reducible refine Kd.C_drew ?_)));(case side2 => exact HC0_0.out);(case side3 => repeat (first | exact (Kd.C_below HR0_1.out HB.out) | (with_reducible refine Kd.C_alloc ?_ _) | (with_reducible refine Kd.C_drewN ?_ _) | (with_reducible refine Kd.C_drew ?_)));(case side4 => exact HC0_1.out);rintro e w22 ⟨rfl,hb⟩;refine ⟨_,rfl,?_⟩;have n0_ := Aside0.mk (blk_below (g := gb101) (o := .cells #[.slice A0_0 l0_0.length c0_0,.slice A0_1 l0_1.length c0_1] 25 (0,0)) (by (with_reducible repeat (first | refine blk_drewN ?_ _ | refine blk_drew ?_ | refine blk_alloc ?_ _));exact BK101.out) hb);have n1_ := Aside0.mk (below_step (by repeat (first | (with_reducible first | exact HB.out | apply below_alloc | apply pw_below_drewN | apply below_drew1 | refine below_set ?_ GE101.out) | exact HB.out)) hb);clear BK101;clear HB;have BK101 := n0_;have HB := n1_;clear n0_ n1_;(try clear hb);(try clear hb2);(try clear hk);(try clear hi)) | ((with_reducible refine gate_callee (f := 19) rfl ?_);refine goesL_ (some 21) rfl rfl Try.func19 (by kernel_rfl) rfl #[.slice A1 l1.length c1,.int .i64 t102] rfl (by (try simp only [List.map_toArray,List.map_cons,List.map_nil]);first | done | rfl | (simp only [List.length_drop,List.length_take];rfl)) ?_;(with_reducible refine (laws_szSightS.calls _ _ l1 t102 t103 _ ?side1 ?side2 A8.out).mono ?_);(case side1 => repeat (first | exact (Kd.C_below HR1.out HB.out) | (with_reducible refine Kd.C_alloc ?_ _) | (with_reducible refine Kd.C_drewN ?_ _) | (with_reducible refine Kd.C_drew ?_)));(case side2 => exact HC1.out);rintro e w' ⟨rfl,⟨nd,rfl⟩⟩;refine ⟨_,rfl,?_⟩;(try (rw [drewN_self w22];generalize hq_ : World.drewN w22 _ = w22;have n0_ : Aside0 (w22.heap[gb101]? = some (.cells #[.slice A0_0 l0_0.length c0_0,.slice A0_1 l0_1.length c0_1] 25 (0,0))) := ⟨by rw [← hq_];exact (by (with_reducible repeat (first | refine blk_drewN ?_ _ | refine blk_drew ?_ | refine blk_alloc ?_ _));exact BK101.out)⟩;have n1_ : Aside0 (Below w.heap.size w w22) := ⟨by rw [← hq_];exact (by repeat (first | (with_reducible first | exact HB.out | apply below_alloc | apply pw_below_drewN | apply below_drew1 | refine below_set ?_ GE101.out) | exact HB.out))⟩;clear BK101 HB hq_;have BK101 := n0_;have HB := n1_;clear n0_ n1_));have hcz23_0 : w22.cell? ⟨gb101,0,none⟩ = some (.slice A0_0 l0_0.length c0_0) := (blk_cell BK101.out 0).trans rfl;have hcz23_1 : w22.cell? ⟨gb101,1,none⟩ = some (.slice A0_1 l0_1.length c0_1) := (blk_cell BK101.out 1).trans rfl;have hfz23_0 := blk_frozen BK101.out 0;have hfz23_1 := blk_frozen BK101.out 1) | ((with_reducible refine gate_callee (f := 10) rfl ?_);refine goesL_ (some 26) rfl rfl Try.func10 (by kernel_rfl) rfl #[.agg #[.slice A0_0 l0_0.length c0_0,.slice A0_1 l0_1.length c0_1]] rfl (by (try simp only [List.map_toArray,List.map_cons,List.map_nil]);first | done | rfl | (simp only [List.length_drop,List.length_take];rfl)) ?_;(with_reducible refine (laws_toCode.calls k _ _ l0_0 _ _ l0_1 t104 t107 _ ?side1 ?side2 ?side3 ?side4 A13.out).mono ?_);(case side1 => repeat (first | exact (Kd.C_below HR0_0.out HB.out) | (with_reducible refine Kd.C_alloc ?_ _) | (with_reducible refine Kd.C_drewN ?_ _) | (with_reducible refine Kd.C_drew ?_)));(case side2 => exact HC0_0.out);(case side3 => repeat (first | exact (Kd.C_below HR0_1.out HB.out) | (with_reducible refine Kd.C_alloc ?_ _) | (with_reducible refine Kd.C_drewN ?_ _) | (with_reducible refine Kd.C_drew ?_)));(case side4 => exact HC0_1.out);rintro e w24 ⟨v105,v108,rfl,ho0,ho1,hb⟩;refine ⟨_,rfl,?_⟩;have n0_ := Aside0.mk (Kd.R_lower ho0 (below_size (by repeat (first | (with_reducible first | exact HB.out | apply below_alloc | apply pw_below_drewN | apply below_drew1 | refine below_set ?_ GE101.out) | exact HB.out))));have n1_ := Aside0.mk (Kd.S_lower ho1 (below_size (by repeat (first | (with_reducible first | exact HB.out | apply below_alloc | apply pw_below_drewN | apply below_drew1 | refine below_set ?_ GE101.out) | exact HB.out))));have n2_ := Aside0.mk (blk_below (g := gb101) (o := .cells #[.slice A0_0 l0_0.length c0_0,.slice A0_1 l0_1.length c0_1] 25 (0,0)) (by (with_reducible repeat (first | refine blk_drewN ?_ _ | refine blk_drew ?_ | refine blk_alloc ?_ _));exact BK101.out) hb);have n3_ := Aside0.mk (below_step (by repeat (first | (with_reducible first | exact HB.out | apply below_alloc | apply pw_below_drewN | apply below_drew1 | refine below_set ?_ GE101.out) | exact HB.out)) hb);clear BK101;clear HB;have HO106 := n0_;have HO109 := n1_;have BK101 := n2_;have HB := n3_;clear n0_ n1_ n2_ n3_;(try clear hb);(try clear hb2);(try clear hk);(try clear hi);(try clear ho0);(try clear ho1)) | ((with_reducible refine gate_callee (f := 21) rfl ?_);refine goesL_ (some 28) rfl rfl Try.func21 (by kernel_rfl) rfl #[.slice A1 l1.length c1] rfl (by (try simp only [List.map_toArray,List.map_cons,List.map_nil]);first | done | rfl | (simp only [List.length_drop,List.length_take];rfl)) ?_;(with_reducible refine (laws_toSightS.calls _ _ l1 t110 _ ?side1 ?side2 A14.out).mono ?_);(case side1 => repeat (first | exact (Kd.C_below HR1.out HB.out) | (with_reducible refine Kd.C_alloc ?_ _) | (with_reducible refine Kd.C_drewN ?_ _) | (with_reducible refine Kd.C_drew ?_)));(case side2 => exact HC1.out);rintro e w25 ⟨v111,rfl,ho0,hb⟩;refine ⟨_,rfl,?_⟩;have n0_ := Aside0.mk (Kd.R_below (by (with_reducible repeat (first | apply Kd.R_alloc | apply Kd.R_drewN | apply Kd.R_drew));exact HO106.out) hb);have n1_ := Aside0.mk (Kd.S_below (by (with_reducible repeat (first | apply Kd.S_alloc | apply Kd.S_drewN | apply Kd.S_drew));exact HO109.out) hb);have n2_ := Aside0.mk (Kd.R_lower ho0 (below_size (by repeat (first | (with_reducible first | exact HB.out | apply below_alloc | apply pw_below_drewN | apply below_drew1 | refine below_set ?_ GE101.out) | exact HB.out))));have n3_ := Aside0.mk (blk_below (g := gb101) (o := .cells #[.slice A0_0 l0_0.length c0_0,.slice A0_1 l0_1.length c0_1] 25 (0,0)) (by (with_reducible repeat (first | refine blk_drewN ?_ _ | refine blk_drew ?_ | refine blk_alloc ?_ _));exact BK101.out) hb);have n4_ := Aside0.mk (below_step (by repeat (first | (with_reducible first | exact HB.out | apply below_alloc | apply pw_below_drewN | apply below_drew1 | refine below_set ?_ GE101.out) | exact HB.out)) hb);clear HO106;clear HO109;clear BK101;clear HB;have HO106 := n0_;have HO109 := n1_;have HO112 := n2_;have BK101 := n3_;have HB := n4_;clear n0_ n1_ n2_ n3_ n4_;(try clear hb);(try clear hb2);(try clear hk);(try clear hi);(try clear ho0);obtain ⟨Ao26,co26,eo26⟩ := Kd.R_slice HO106.out;subst eo26;obtain ⟨Ao27,co27,eo27⟩ := Kd.S_slice HO109.out;subst eo27;obtain ⟨Ao28,co28,eo28⟩ := Kd.R_slice HO112.out;subst eo28) | ((with_reducible refine gate_callee (f := 20) rfl ?_);refine goesL_ (some 29) rfl rfl Try.func20 (by kernel_rfl) rfl #[.agg #[.slice Ao26 t104.length co26,.slice Ao27 t107.length co27],.slice Ao28 t110.length co28] rfl (by (try simp only [List.map_toArray,List.map_cons,List.map_nil]);first | done | rfl | (simp only [List.length_drop,List.length_take];rfl)) ?_;(with_reducible refine (spec_ReadSights.calls k _ _ t104 _ _ t107 _ _ t110 t113 t114 t115 _ ?side1 ?side2 ?side3 ?side4 ?side5 ?side6 A15.out).mono ?_);(case side1 => repeat (first | exact (Kd.R_reads' HO106.out).2.2 | (with_reducible refine Kd.C_alloc ?_ _) | (with_reducible refine Kd.C_drewN ?_ _) | (with_reducible refine Kd.C_drew ?_)));(case side2 => exact (Kd.R_reads' HO106.out).2.1);(case side3 => repeat (first | exact (Kd.S_reads' HO109.out).2.2 | (with_reducible refine Kd.C_alloc ?_ _) | (with_reducible refine Kd.C_drewN ?_ _) | (with_reducible refine Kd.C_drew ?_)));(case side4 => exact (Kd.S_reads' HO109.out).2.1);(case side5 => repeat (first | exact (Kd.R_reads' HO112.out).2.2 | (with_reducible refine Kd.C_alloc ?_ _) | (with_reducible refine Kd.C_drewN ?_ _) | (with_reducible refine Kd.C_drew ?_)));(case side6 => exact (Kd.R_reads' HO112.out).2.1);rintro e w29 ⟨rfl,hb⟩;refine ⟨_,rfl,?_⟩;have n0_ := Aside0.mk (Kd.R_below (by (with_reducible repeat (first | apply Kd.R_alloc | apply Kd.R_drewN | apply Kd.R_drew));exact HO106.out) hb);have n1_ := Aside0.mk (Kd.S_below (by (with_reducible repeat (first | apply Kd.S_alloc | apply Kd.S_drewN | apply Kd.S_drew));exact HO109.out) hb);have n2_ := Aside0.mk (Kd.R_below (by (with_reducible repeat (first | apply Kd.R_alloc | apply Kd.R_drewN | apply Kd.R_drew));exact HO112.out) hb);have n3_ := Aside0.mk (blk_below (g := gb101) (o := .cells #[.slice A0_0 l0_0.length c0_0,.slice A0_1 l0_1.length c0_1] 25 (0,0)) (by (with_reducible repeat (first | refine blk_drewN ?_ _ | refine blk_drew ?_ | refine blk_alloc ?_ _));exact BK101.out) hb);have n4_ := Aside0.mk (below_step (by repeat (first | (with_reducible first | exact HB.out | apply below_alloc | apply pw_below_drewN | apply below_drew1 | refine below_set ?_ GE101.out) | exact HB.out)) hb);clear HO106;clear HO109;clear HO112;clear BK101;clear HB;have HO106 := n0_;have HO109 := n1_;have HO112 := n2_;have BK101 := n3_;have HB := n4_;clear n0_ n1_ n2_ n3_ n4_;(try clear hb);(try clear hb2);(try clear hk);(try clear hi);have hcz30_0 : w29.cell? ⟨gb101,0,none⟩ = some (.slice A0_0 l0_0.length c0_0) := (blk_cell BK101.out 0).trans rfl;have hcz30_1 : w29.cell? ⟨gb101,1,none⟩ = some (.slice A0_1 l0_1.length c0_1) := (blk_cell BK101.out 1).trans rfl;have hfz30_0 := blk_frozen BK101.out 0;have hfz30_1 := blk_frozen BK101.out 1) | ((with_reducible refine gate_callee (f := 10) rfl ?_);refine goesL_ (some 34) rfl rfl Try.func10 (by kernel_rfl) rfl #[.agg #[.slice A0_0 l0_0.length c0_0,.slice A0_1 l0_1.length c0_1]] rfl (by (try simp only [List.map_toArray,List.map_cons,List.map_nil]);first | done | rfl | (simp only [List.length_drop,List.length_take];rfl)) ?_;(with_reducible refine (laws_toCode.calls k _ _ l0_0 _ _ l0_1 t116 t119 _ ?side1 ?side2 ?side3 ?side4 A16.out).mono ?_);(case side1 => repeat (first | exact (Kd.C_below HR0_0.out HB.out) | (with_reducible refine Kd.C_alloc ?_ _) | (with_reducible refine Kd.C_drewN ?_ _) | (with_reducible refine Kd.C_drew ?_)));(case side2 => exact HC0_0.out);(case side3 => repeat (first | exact (Kd.C_below HR0_1.out HB.out) | (with_reducible refine Kd.C_alloc ?_ _) | (with_reducible refine Kd.C_drewN ?_ _) | (with_reducible refine Kd.C_drew ?_)));(case side4 => exact HC0_1.out);rintro e w31 ⟨v117,v120,rfl,ho0,ho1,hb⟩;refine ⟨_,rfl,?_⟩;have n0_ := Aside0.mk (Kd.R_elder' (by (with_reducible repeat (first | apply Kd.R_alloc | apply Kd.R_drewN | apply Kd.R_drew));exact HO106.out) (Kd.R_base ho0) hb);have n1_ := Aside0.mk (Kd.S_elder' (by (with_reducible repeat (first | apply Kd.S_alloc | apply Kd.S_drewN | apply Kd.S_drew));exact HO109.out) (Kd.S_base ho1) hb);have n2_ := Aside0.mk (Kd.R_below (by (with_reducible repeat (first | apply Kd.R_alloc | apply Kd.R_drewN | apply Kd.R_drew));exact HO112.out) hb);have n3_ := Aside0.mk (Kd.R_lower (Kd.R_new' ho0 (Kd.R_lt (by (with_reducible repeat (first | apply Kd.R_alloc | apply Kd.R_drewN | apply Kd.R_drew));exact HO106.out))) (below_size (by repeat (first | (with_reducible first | exact HB.out | apply below_alloc | apply pw_below_drewN | apply below_drew1 | refine below_set ?_ GE101.out) | exact HB.out))));have n4_ := Aside0.mk (Kd.S_lower (Kd.S_new' ho1 (Kd.S_lt (by (with_reducible repeat (first | apply Kd.S_alloc | apply Kd.S_drewN | apply Kd.S_drew));exact HO109.out))) (below_size (by repeat (first | (with_reducible first | exact HB.out | apply below_alloc | apply pw_below_drewN | apply below_drew1 | refine below_set ?_ GE101.out) | exact HB.out))));have n5_ := Aside0.mk (blk_below (g := gb101) (o := .cells #[.slice A0_0 l0_0.length c0_0,.slice A0_1 l0_1.length c0_1] 25 (0,0)) (by (with_reducible repeat (first | refine blk_drewN ?_ _ | refine blk_drew ?_ | refine blk_alloc ?_ _));exact BK101.out) hb);have n6_ := Aside0.mk (below_step (by repeat (first | (with_reducible first | exact HB.out | apply below_alloc | apply pw_below_drewN | apply below_drew1 | refine below_set ?_ GE101.out) | exact HB.out)) hb);clear HO106;clear HO109;clear HO112;clear BK101;clear HB;have HO106 := n0_;have HO109 := n1_;have HO112 := n2_;have HO118 := n3_;have HO121 := n4_;have BK101 := n5_;have HB := n6_;clear n0_ n1_ n2_ n3_ n4_ n5_ n6_;(try clear hb);(try clear hb2);(try clear hk);(try clear hi);(try clear ho0);(try clear ho1)) | ((with_reducible refine gate_dst (N := 9) rfl ?_);refine box_event ?hg (N := 9) ?hd (cs := #[.slice none 0 0,.slice none 0 0]) (t := 33) ?hr ?_;(case hd => rfl);(case hg => rfl);(case hr => first | (go_simp;done) | (go_simp;rfl));intro gb122 hg w32 hbox hb;have n0_ := Aside0.mk (Kd.R_below (by (with_reducible repeat (first | apply Kd.R_alloc | apply Kd.R_drewN | apply Kd.R_drew));exact HO106.out) hb);have n1_ := Aside0.mk (Kd.S_below (by (with_reducible repeat (first | apply Kd.S_alloc | apply Kd.S_drewN | apply Kd.S_drew));exact HO109.out) hb);have n2_ := Aside0.mk (Kd.R_below (by (with_reducible repeat (first | apply Kd.R_alloc | apply Kd.R_drewN | apply Kd.R_drew));exact HO112.out) hb);have n3_ := Aside0.mk (Kd.R_below (by (with_reducible repeat (first | apply Kd.R_alloc | apply Kd.R_drewN | apply Kd.R_drew));exact HO118.out) hb);have n4_ := Aside0.mk (Kd.S_below (by (with_reducible repeat (first | apply Kd.S_alloc | apply Kd.S_drewN | apply Kd.S_drew));exact HO121.out) hb);have n5_ := Aside0.mk (blk_below (g := gb101) (o := .cells #[.slice A0_0 l0_0.length c0_0,.slice A0_1 l0_1.length c0_1] 25 (0,0)) (by (with_reducible repeat (first | refine blk_drewN ?_ _ | refine blk_drew ?_ | refine blk_alloc ?_ _));exact BK101.out) hb);have n6_ := Aside0.mk (below_step (by repeat (first | (with_reducible first | exact HB.out | apply below_alloc | apply pw_below_drewN | apply below_drew1 | refine below_set ?_ GE101.out) | exact HB.out)) hb);have n7_ := Aside0.mk (hbox);have n8_ := Aside0.mk ((by rw [hg];exact (below_size (by repeat (first | (with_reducible first | exact HB.out | apply below_alloc | apply pw_below_drewN | apply below_drew1 | refine below_set ?_ GE101.out) | exact HB.out))) : w.heap.size ≤ gb122));have n9_ := Aside0.mk ((by rw [hg];exact (below_size (by repeat (first | (with_reducible first | exact HB.out | apply below_alloc | apply pw_below_drewN | apply below_drew1 | refine below_set ?_ GE101.out) | exact HB.out))) : w.heap.size ≤ gb122));have n10_ := Aside0.mk ((by rw [hg];exact Nat.ne_of_lt (blk_lt (g := gb101) (o := .cells #[.slice A0_0 l0_0.length c0_0,.slice A0_1 l0_1.length c0_1] 25 (0,0)) (by (with_reducible repeat (first | refine blk_drewN ?_ _ | refine blk_drew ?_ | refine blk_alloc ?_ _));exact BK101.out)) : gb101 ≠ gb122));have n11_ := Aside0.mk ((by rw [hg];exact Nat.ne_of_gt (blk_lt (g := gb101) (o := .cells #[.slice A0_0 l0_0.length c0_0,.slice A0_1 l0_1.length c0_1] 25 (0,0)) (by (with_reducible repeat (first | refine blk_drewN ?_ _ | refine blk_drew ?_ | refine blk_alloc ?_ _));exact BK101.out)) : gb122 ≠ gb101));clear HO106;clear HO109;clear HO112;clear HO118;clear HO121;clear BK101;clear HB;have HO106 := n0_;have HO109 := n1_;have HO112 := n2_;have HO118 := n3_;have HO121 := n4_;have BK101 := n5_;have HB := n6_;have BK122 := n7_;have GW122 := n8_;have GE122 := n9_;have NB101_122 := n10_;have NB122_101 := n11_;clear n0_ n1_ n2_ n3_ n4_ n5_ n6_ n7_ n8_ n9_ n10_ n11_;clear hb hbox hg;obtain ⟨Ao33,co33,eo33⟩ := Kd.R_slice HO118.out;subst eo33;have hnb34 := NB122_101.out;have hnc34 := NB101_122.out;have hcz35_0 : w32.cell? ⟨gb122,0,none⟩ = some (.slice none 0 0) := (blk_cell BK122.out 0).trans rfl;have hcz35_1 : w32.cell? ⟨gb122,1,none⟩ = some (.slice none 0 0) := (blk_cell BK122.out 1).trans rfl;have hfz35_0 := blk_frozen BK122.out 0;have hfz35_1 := blk_frozen BK122.out 1;obtain ⟨Ao36,co36,eo36⟩ := Kd.S_slice HO121.out;subst eo36) | ((with_reducible refine gate_callee (f := 21) rfl ?_);refine goesL_ (some 36) rfl rfl Try.func21 (by kernel_rfl) rfl #[.slice A1 l1.length c1] rfl (by (try simp only [List.map_toArray,List.map_cons,List.map_nil]);first | done | rfl | (simp only [List.length_drop,List.length_take];rfl)) ?_;(with_reducible refine (laws_toSightS.calls _ _ l1 t123 _ ?side1 ?side2 A17.out).mono ?_);(case side1 => exact Kd.C_below HR1.out (by repeat (first | (with_reducible first | exact HB.out | apply below_alloc | apply pw_below_drewN | apply below_drew1 | refine below_set ?_ GE101.out | refine below_set ?_ GE122.out) | exact HB.out)));(case side2 => exact HC1.out);rintro e w37 ⟨v124,rfl,ho0,hb⟩;refine ⟨_,rfl,?_⟩;have n0_ := Aside0.mk (Kd.R_below (by (with_reducible repeat (first | apply Kd.R_alloc | apply Kd.R_drewN | apply Kd.R_drew));exact (Kd.R_mono (Kd.R_far (p := ⟨gb122,1,none⟩) (Kd.R_far (p := ⟨gb122,0,none⟩) (Kd.R_types HO106.out BK122.out (by decide)) (fun _ hk => hk.2) (.slice Ao33 t116.length co33)) (fun _ hk => hk.2) (.slice Ao36 t119.length co36)) (fun _ h_ => h_.1))) hb);have n1_ := Aside0.mk (Kd.S_below (by (with_reducible repeat (first | apply Kd.S_alloc | apply Kd.S_drewN | apply Kd.S_drew));exact (Kd.S_mono (Kd.S_far (p := ⟨gb122,1,none⟩) (Kd.S_far (p := ⟨gb122,0,none⟩) (Kd.S_types HO109.out BK122.out (by decide)) (fun _ hk => hk.2) (.slice Ao33 t116.length co33)) (fun _ hk => hk.2) (.slice Ao36 t119.length co36)) (fun _ h_ => h_.1))) hb);have n2_ := Aside0.mk (Kd.R_elder' (by (with_reducible repeat (first | apply Kd.R_alloc | apply Kd.R_drewN | apply Kd.R_drew));exact (Kd.R_mono (Kd.R_far (p := ⟨gb122,1,none⟩) (Kd.R_far (p := ⟨gb122,0,none⟩) (Kd.R_types HO112.out BK122.out (by decide)) (fun _ hk => hk.2) (.slice Ao33 t116.length co33)) (fun _ hk => hk.2) (.slice Ao36 t119.length co36)) (fun _ h_ => h_.1))) (Kd.R_base ho0) hb);have n3_ := Aside0.mk (Kd.R_below (by (with_reducible repeat (first | apply Kd.R_alloc | apply Kd.R_drewN | apply Kd.R_drew));exact (Kd.R_mono (Kd.R_far (p := ⟨gb122,1,none⟩) (Kd.R_far (p := ⟨gb122,0,none⟩) (Kd.R_types HO118.out BK122.out (by decide)) (fun _ hk => hk.2) (.slice Ao33 t116.length co33)) (fun _ hk => hk.2) (.slice Ao36 t119.length co36)) (fun _ h_ => h_.1))) hb);have n4_ := Aside0.mk (Kd.S_below (by (with_reducible repeat (first | apply Kd.S_alloc | apply Kd.S_drewN | apply Kd.S_drew));exact (Kd.S_mono (Kd.S_far (p := ⟨gb122,1,none⟩) (Kd.S_far (p := ⟨gb122,0,none⟩) (Kd.S_types HO121.out BK122.out (by decide)) (fun _ hk => hk.2) (.slice Ao33 t116.length co33)) (fun _ hk => hk.2) (.slice Ao36 t119.length co36)) (fun _ h_ => h_.1))) hb);have n5_ := Aside0.mk (Kd.R_lower (Kd.R_new' ho0 (Kd.R_lt (by (with_reducible repeat (first | apply Kd.R_alloc | apply Kd.R_drewN | apply Kd.R_drew));exact (Kd.R_mono (Kd.R_far (p := ⟨gb122,1,none⟩) (Kd.R_far (p := ⟨gb122,0,none⟩) (Kd.R_types HO112.out BK122.out (by decide)) (fun _ hk => hk.2) (.slice Ao33 t116.length co33)) (fun _ hk => hk.2) (.slice Ao36 t119.length co36)) (fun _ h_ => h_.1))))) (below_size (by repeat (first | (with_reducible first | exact HB.out | apply below_alloc | apply pw_below_drewN | apply below_drew1 | refine below_set ?_ GE101.out | refine below_set ?_ GE122.out) | exact HB.out))));have n6_ := Aside0.mk (blk_below (g := gb101) (o := .cells #[.slice A0_0 l0_0.length c0_0,.slice A0_1 l0_1.length c0_1] 25 (0,0)) (by (with_reducible repeat (first | refine blk_drewN ?_ _ | refine blk_drew ?_ | refine blk_alloc ?_ _));refine blk_far ?_ NB101_122.out _;(with_reducible repeat (first | refine blk_drewN ?_ _ | refine blk_drew ?_ | refine blk_alloc ?_ _));refine blk_far ?_ NB101_122.out _;(with_reducible repeat (first | refine blk_drewN ?_ _ | refine blk_drew ?_ | refine blk_alloc ?_ _));exact BK101.out) hb);have n7_ := Aside0.mk (blk_below (g := gb122) (o := .cells #[.slice Ao33 t116.length co33,.slice Ao36 t119.length co36] 33 (0,0)) (by (with_reducible repeat (first | refine blk_drewN ?_ _ | refine blk_drew ?_ | refine blk_alloc ?_ _));refine blk_put (cs := #[.slice Ao33 t116.length co33,.slice none 0 0]) ?_ 1 _ rfl;(with_reducible repeat (first | refine blk_drewN ?_ _ | refine blk_drew ?_ | refine blk_alloc ?_ _));refine blk_put (cs := #[.slice none 0 0,.slice none 0 0]) ?_ 0 _ rfl;(with_reducible repeat (first | refine blk_drewN ?_ _ | refine blk_drew ?_ | refine blk_alloc ?_ _));exact BK122.out) hb);have n8_ := Aside0.mk (below_step (by repeat (first | (with_reducible first | exact HB.out | apply below_alloc | apply pw_below_drewN | apply below_drew1 | refine below_set ?_ GE101.out | refine below_set ?_ GE122.out) | exact HB.out)) hb);clear HO106;clear HO109;clear HO112;clear HO118;clear HO121;clear BK101;clear BK122;clear HB;have HO106 := n0_;have HO109 := n1_;have HO112 := n2_;have HO118 := n3_;have HO121 := n4_;have HO125 := n5_;have BK101 := n6_;have BK122 := n7_;have HB := n8_;clear n0_ n1_ n2_ n3_ n4_ n5_ n6_ n7_ n8_;(try clear hb);(try clear hb2);(try clear hk);(try clear hi);(try clear ho0);have hcz38_0 : w37.cell? ⟨gb122,0,none⟩ = some (.slice Ao33 t116.length co33) := (blk_cell BK122.out 0).trans rfl;have hcz38_1 : w37.cell? ⟨gb122,1,none⟩ = some (.slice Ao36 t119.length co36) := (blk_cell BK122.out 1).trans rfl;have hfz38_0 := blk_frozen BK122.out 0;have hfz38_1 := blk_frozen BK122.out 1;obtain ⟨Ao39,co39,eo39⟩ := Kd.R_slice HO125.out;subst eo39) | ((with_reducible refine gate_callee (f := 22) rfl ?_);refine goesL_ (some 40) rfl rfl Try.func22 (by kernel_rfl) rfl #[.agg #[.slice Ao33 t116.length co33,.slice Ao36 t119.length co36],.slice Ao39 t123.length co39] rfl (by (try simp only [List.map_toArray,List.map_cons,List.map_nil]);first | done | rfl | (simp only [List.length_drop,List.length_take];rfl)) ?_;(with_reducible refine (impl_ReadSights.calls k _ _ t116 _ _ t119 _ _ t123 t126 t127 t128 _ ?side1 ?side2 ?side3 ?side4 ?side5 ?side6 A18.out).mono ?_);(case side1 => repeat (first | exact (Kd.R_reads' HO118.out).2.2 | (with_reducible refine Kd.C_alloc ?_ _) | (with_reducible refine Kd.C_drewN ?_ _) | (with_reducible refine Kd.C_drew ?_)));(case side2 => exact (Kd.R_reads' HO118.out).2.1);(case side3 => repeat (first | exact (Kd.S_reads' HO121.out).2.2 | (with_reducible refine Kd.C_alloc ?_ _) | (with_reducible refine Kd.C_drewN ?_ _) | (with_reducible refine Kd.C_drew ?_)));(case side4 => exact (Kd.S_reads' HO121.out).2.1);(case side5 => repeat (first | exact (Kd.R_reads' HO125.out).2.2 | (with_reducible refine Kd.C_alloc ?_ _) | (with_reducible refine Kd.C_drewN ?_ _) | (with_reducible refine Kd.C_drew ?_)));(case side6 => exact (Kd.R_reads' HO125.out).2.1);rintro e w40 ⟨rfl,hb⟩;refine ⟨_,rfl,?_⟩;have n0_ := Aside0.mk (Kd.R_below (by (with_reducible repeat (first | apply Kd.R_alloc | apply Kd.R_drewN | apply Kd.R_drew));exact HO106.out) hb);have n1_ := Aside0.mk (Kd.S_below (by (with_reducible repeat (first | apply Kd.S_alloc | apply Kd.S_drewN | apply Kd.S_drew));exact HO109.out) hb);have n2_ := Aside0.mk (Kd.R_below (by (with_reducible repeat (first | apply Kd.R_alloc | apply Kd.R_drewN | apply Kd.R_drew));exact HO112.out) hb);have n3_ := Aside0.mk (Kd.R_below (by (with_reducible repeat (first | apply Kd.R_alloc | apply Kd.R_drewN | apply Kd.R_drew));exact HO118.out) hb);have n4_ := Aside0.mk (Kd.S_below (by (with_reducible repeat (first | apply Kd.S_alloc | apply Kd.S_drewN | apply Kd.S_drew));exact HO121.out) hb);have n5_ := Aside0.mk (Kd.R_below (by (with_reducible repeat (first | apply Kd.R_alloc | apply Kd.R_drewN | apply Kd.R_drew));exact HO125.out) hb);have n6_ := Aside0.mk (blk_below (g := gb101) (o := .cells #[.slice A0_0 l0_0.length c0_0,.slice A0_1 l0_1.length c0_1] 25 (0,0)) (by (with_reducible repeat (first | refine blk_drewN ?_ _ | refine blk_drew ?_ | refine blk_alloc ?_ _));exact BK101.out) hb);have n7_ := Aside0.mk (blk_below (g := gb122) (o := .cells #[.slice Ao33 t116.length co33,.slice Ao36 t119.length co36] 33 (0,0)) (by (with_reducible repeat (first | refine blk_drewN ?_ _ | refine blk_drew ?_ | refine blk_alloc ?_ _));exact BK122.out) hb);have n8_ := Aside0.mk (below_step (by repeat (first | (with_reducible first | exact HB.out | apply below_alloc | apply pw_below_drewN | apply below_drew1 | refine below_set ?_ GE101.out | refine below_set ?_ GE122.out) | exact HB.out)) hb);clear HO106;clear HO109;clear HO112;clear HO118;clear HO121;clear HO125;clear BK101;clear BK122;clear HB;have HO106 := n0_;have HO109 := n1_;have HO112 := n2_;have HO118 := n3_;have HO121 := n4_;have HO125 := n5_;have BK101 := n6_;have BK122 := n7_;have HB := n8_;clear n0_ n1_ n2_ n3_ n4_ n5_ n6_ n7_ n8_;(try clear hb);(try clear hb2);(try clear hk);(try clear hi)))
   (try simp only [Act.put,List.setIfInBounds_toArray,List.set_cons_zero,List.set_cons_succ])
   go_cut [56] (fun v56 wc => ∃ (kq : Nat) (x56_18 : Bool),v56 = .bool x56_18 ∧ Aside0 (laws_FnExactReadSights.j0 kq l1 t123 x56_18 l0_0 l0_1 t116 t119 = some r) ∧ Aside0 (kq ≤ k) ∧ Aside0 (Kd.R k61 61 wc w.heap.size (fun _ => True) (.slice Ao39 t123.length co39) t123) ∧ Aside0 (Kd.R k68 68 wc w.heap.size (fun _ => True) (.slice Ao33 t116.length co33) t116) ∧ Aside0 (Kd.S (Kd.slice 5 (Kd.int .u8)) 79 wc w.heap.size (fun _ => True) (.slice Ao36 t119.length co36) t119) ∧ Aside0 (wc.heap[gb101]? = some (.cells #[(.slice A0_0 l0_0.length c0_0),(.slice A0_1 l0_1.length c0_1)] 25 (0,0))) ∧ Aside0 (wc.heap[gb122]? = some (.cells #[(.slice Ao33 t116.length co33),(.slice Ao36 t119.length co36)] 33 (0,0))) ∧ Aside0 (Below w.heap.size w wc))
   case first =>
    have H := HC19.out;clear HC19
    by_cases c41 : t126 = t113
    ·rw [if_pos c41] at H;have c41b0 : (t126 == t113) = true := beq_iff_eq.mpr c41;have c41b1 : (t126 != t113) = false := bne_eq_false_iff_eq.mpr c41;clear c41;(first | rw [c41b0] | (simp only [i64_w,i32_w];rw [c41b0]) | skip)
     by_cases c42 : t127 = t114
     ·rw [if_pos c42] at H;have c42b0 : (t127 == t114) = true := beq_iff_eq.mpr c42;have c42b1 : (t127 != t114) = false := bne_eq_false_iff_eq.mpr c42;clear c42;have H' := Aside0.mk H;clear H
      go_wp2
      go_meet
      case rel => exact ⟨_,((t128 != t115)),(by first | rfl | (simp only [IntKind.wrap_i64,wrap64];done) | (simp;done) | (simp [*];done)),H',⟨by first | omega | exact Nat.le_refl _⟩,⟨by (with_reducible repeat (first | apply Kd.R_alloc | apply Kd.R_drewN | apply Kd.R_drew));exact Kd.R_mono HO125.out (fun _ hk => trivial)⟩,⟨by (with_reducible repeat (first | apply Kd.R_alloc | apply Kd.R_drewN | apply Kd.R_drew));exact Kd.R_mono HO118.out (fun _ hk => trivial)⟩,⟨by (with_reducible repeat (first | apply Kd.S_alloc | apply Kd.S_drewN | apply Kd.S_drew));exact Kd.S_mono HO121.out (fun _ hk => trivial)⟩,⟨by (with_reducible repeat (first | refine blk_drewN ?_ _ | refine blk_drew ?_ | refine blk_alloc ?_ _));exact BK101.out⟩,⟨by (with_reducible repeat (first | refine blk_drewN ?_ _ | refine blk_drew ?_ | refine blk_alloc ?_ _));exact BK122.out⟩,⟨by repeat (first | (with_reducible first | exact HB.out | apply below_alloc | apply pw_below_drewN | apply below_drew1 | refine below_set ?_ GE101.out | refine below_set ?_ GE122.out) | exact HB.out)⟩⟩
     ·rw [if_neg c42] at H;have c42b0 : (t127 == t114) = false := beq_eq_false_iff_ne.mpr c42;have c42b1 : (t127 != t114) = true := bne_iff_ne.mpr c42;have H' := Aside0.mk H;clear H
      go_wp2
      go_meet
      case rel => exact ⟨_,(true),(by first | rfl | (simp only [IntKind.wrap_i64,wrap64];done) | (simp;done) | (simp [*];done)),H',⟨by first | omega | exact Nat.le_refl _⟩,⟨by (with_reducible repeat (first | apply Kd.R_alloc | apply Kd.R_drewN | apply Kd.R_drew));exact Kd.R_mono HO125.out (fun _ hk => trivial)⟩,⟨by (with_reducible repeat (first | apply Kd.R_alloc | apply Kd.R_drewN | apply Kd.R_drew));exact Kd.R_mono HO118.out (fun _ hk => trivial)⟩,⟨by (with_reducible repeat (first | apply Kd.S_alloc | apply Kd.S_drewN | apply Kd.S_drew));exact Kd.S_mono HO121.out (fun _ hk => trivial)⟩,⟨by (with_reducible repeat (first | refine blk_drewN ?_ _ | refine blk_drew ?_ | refine blk_alloc ?_ _));exact BK101.out⟩,⟨by (with_reducible repeat (first | refine blk_drewN ?_ _ | refine blk_drew ?_ | refine blk_alloc ?_ _));exact BK122.out⟩,⟨by repeat (first | (with_reducible first | exact HB.out | apply below_alloc | apply pw_below_drewN | apply below_drew1 | refine below_set ?_ GE101.out | refine below_set ?_ GE122.out) | exact HB.out)⟩⟩
    ·rw [if_neg c41] at H;have c41b0 : (t126 == t113) = false := beq_eq_false_iff_ne.mpr c41;have c41b1 : (t126 != t113) = true := bne_iff_ne.mpr c41;(first | rw [c41b0] | (simp only [i64_w,i32_w];rw [c41b0]) | skip);have H' := Aside0.mk H;clear H
     go_wp2
     go_meet
     case rel => exact ⟨_,(true),(by first | rfl | (simp only [IntKind.wrap_i64,wrap64];done) | (simp;done) | (simp [*];done)),H',⟨by first | omega | exact Nat.le_refl _⟩,⟨by (with_reducible repeat (first | apply Kd.R_alloc | apply Kd.R_drewN | apply Kd.R_drew));exact Kd.R_mono HO125.out (fun _ hk => trivial)⟩,⟨by (with_reducible repeat (first | apply Kd.R_alloc | apply Kd.R_drewN | apply Kd.R_drew));exact Kd.R_mono HO118.out (fun _ hk => trivial)⟩,⟨by (with_reducible repeat (first | apply Kd.S_alloc | apply Kd.S_drewN | apply Kd.S_drew));exact Kd.S_mono HO121.out (fun _ hk => trivial)⟩,⟨by (with_reducible repeat (first | refine blk_drewN ?_ _ | refine blk_drew ?_ | refine blk_alloc ?_ _));exact BK101.out⟩,⟨by (with_reducible repeat (first | refine blk_drewN ?_ _ | refine blk_drew ?_ | refine blk_alloc ?_ _));exact BK122.out⟩,⟨by repeat (first | (with_reducible first | exact HB.out | apply below_alloc | apply pw_below_drewN | apply below_drew1 | refine below_set ?_ GE101.out | refine below_set ?_ GE122.out) | exact HB.out)⟩⟩
   case rest =>
    clear HC19;(try clear c1);(try clear c2);(try clear p2);(try clear c3);(try clear c4);(try clear c4b0);(try clear c5);(try clear c8);(try clear c9);(try clear c9b0);(try clear c10);(try clear c19);(try clear c20);(try clear c21);(try clear c22);(try clear c34);(try clear c41);(try clear c41b0);(try clear c41b1);(try clear c42);(try clear c42b0);(try clear c42b1);(try clear hcz11_0);(try clear hcz11_1);(try clear hcz21_0);(try clear hcz21_1);(try clear hcz23_0);(try clear hcz23_1);(try clear hcz30_0);(try clear hcz30_1);(try clear hcz35_0);(try clear hcz35_1);(try clear hcz38_0);(try clear hcz38_1);(try clear hcz6_0);(try clear hcz6_1);(try clear hfz11_0);(try clear hfz11_1);(try clear hfz21_0);(try clear hfz21_1);(try clear hfz23_0);(try clear hfz23_1);(try clear hfz30_0);(try clear hfz30_1);(try clear hfz35_0);(try clear hfz35_1);(try clear hfz38_0);(try clear hfz38_1);(try clear hfz6_0);(try clear hfz6_1);obtain ⟨kq,x56_18,rfl,HA,HJ18,HO_10,HO_123000,HO_123001,BK101,BK122,HB⟩ := hcut
    cases kq with
    | zero => exact absurd HA.out (by simp [laws_FnExactReadSights.j0])
    | succ kj18 =>
     have H := HA.out;clear HA;simp only [laws_FnExactReadSights.j0] at H
     by_cases c43 : x56_18 = true
     ·subst c43
      have H1 : (some false) = some r := by rw [if_pos rfl] at H;exact H
      clear H;have H := H1;clear H1;obtain rfl := Option.some.inj H
      go_wp2
      go_ret
      exact ⟨by first | rfl | (simp [errW_none,errW_some,IntKind.wrap_i64,wrap64];done) | (simp [errW_none,errW_some] <;> rfl) | (simp [*,errW_none,errW_some] <;> rfl),by repeat (first | (with_reducible first | exact HB.out | apply below_alloc | apply pw_below_drewN | apply below_drew1 | refine below_set ?_ GE101.out | refine below_set ?_ GE122.out) | exact HB.out)⟩
     ·replace c43 := Bool.eq_false_iff.mpr c43;subst c43
      have H1 : ((laws_toCode.f kj18 l0_0 l0_1).bind fun bt129 => ((laws_eqCode.f kj18 t116 t119 bt129.1 bt129.2).bind fun t135 => (if t135 = true then ((laws_toSightS.f l1).bind fun t136 => ((laws_eqSightS.f t123 t136).bind fun t139 => (if t139 = true then (some true) else (some false)))) else (some false)))) = some r := by rw [if_neg (show ¬ (false = true) by decide)] at H;exact H
      clear H;have H := H1;clear H1;replace H := Option.bind_eq_some_iff.mp H;obtain ⟨⟨t129,t132⟩,A440,H⟩ := H;replace H : ((laws_eqCode.f kj18 t116 t119 t129 t132).bind fun t135 => (if t135 = true then ((laws_toSightS.f l1).bind fun t136 => ((laws_eqSightS.f t123 t136).bind fun t139 => (if t139 = true then (some true) else (some false)))) else (some false))) = some r := H;have A44 := Aside0.mk A440;clear A440;replace H := Option.bind_eq_some_iff.mp H;obtain ⟨t135,A450,H⟩ := H;replace H : (if t135 = true then ((laws_toSightS.f l1).bind fun t136 => ((laws_eqSightS.f t123 t136).bind fun t139 => (if t139 = true then (some true) else (some false)))) else (some false)) = some r := H;have A45 := Aside0.mk A450;clear A450
      by_cases c46 : t135 = true
      ·subst c46
       have H1 : ((laws_toSightS.f l1).bind fun t136 => ((laws_eqSightS.f t123 t136).bind fun t139 => (if t139 = true then (some true) else (some false)))) = some r := by rw [if_pos rfl] at H;exact H
       clear H;have H := H1;clear H1;replace H := Option.bind_eq_some_iff.mp H;obtain ⟨t136,A470,H⟩ := H;replace H : ((laws_eqSightS.f t123 t136).bind fun t139 => (if t139 = true then (some true) else (some false))) = some r := H;have A47 := Aside0.mk A470;clear A470;replace H := Option.bind_eq_some_iff.mp H;obtain ⟨t139,A480,H⟩ := H;replace H : (if t139 = true then (some true) else (some false)) = some r := H;have A48 := Aside0.mk A480;clear A480
       by_cases c49 : t139 = true
       ·subst c49
        have H1 : (some true) = some r := by rw [if_pos rfl] at H;exact H
        clear H;have H := H1;clear H1;obtain rfl := Option.some.inj H;(try go_wp2);have n0_ := Aside0.mk (Kd.R_drew HO_10.out);have n1_ := Aside0.mk (Kd.R_drew HO_123000.out);have n2_ := Aside0.mk (Kd.S_drew HO_123001.out);have n3_ := Aside0.mk (blk_drew BK101.out);have n4_ := Aside0.mk (blk_drew BK122.out);have n5_ := Aside0.mk (below_drew1 HB.out);clear HO_10;clear HO_123000;clear HO_123001;clear BK101;clear BK122;clear HB;have HO_10 := n0_;have HO_123000 := n1_;have HO_123001 := n2_;have BK101 := n3_;have BK122 := n4_;have HB := n5_;clear n0_ n1_ n2_ n3_ n4_ n5_;refine start_ (n := 5) (S := fun w' => w'.cell? ⟨gb122,0,none⟩ = some (.slice Ao33 t116.length co33) ∧ w'.cell? ⟨gb122,1,none⟩ = some (.slice Ao36 t119.length co36) ∧ w'.cell? ⟨gb101,0,none⟩ = some (.slice A0_0 l0_0.length c0_0) ∧ w'.cell? ⟨gb101,1,none⟩ = some (.slice A0_1 l0_1.length c0_1)) (ds := []) #[false,false,false,false,false] (by kernel_rfl) rfl rfl ⟨(blk_cell BK122.out 0).trans rfl,(blk_cell BK122.out 1).trans rfl,(blk_cell BK101.out 0).trans rfl,(blk_cell BK101.out 1).trans rfl⟩ (fun hHeld => ?_);generalize wc.drew = w50 at HO_10 HO_123000 HO_123001 BK101 BK122 HB hHeld ⊢;refine take_ (i := 0) (N := some 57) (v := ?_) (a' := ?_) #[true,false,false,false,false] rfl rfl (by kernel_rfl) (fun _ _ _ h => h) (Or.inl ⟨by rfl,?_⟩) hHeld ?_ ?_;rotate_left
        ·rintro w' ⟨s0,s1,s2,s3⟩
         go_simp;with_reducible rfl
        rotate_left
        ·simp only [Act.put,List.setIfInBounds_toArray,List.set_cons_zero,List.set_cons_succ,i64_w,i32_w];rfl
        refine take_ (i := 1) (N := some 58) (v := ?_) (a' := ?_) #[true,true,false,false,false] rfl rfl (by kernel_rfl) (fun _ _ _ h => h) (Or.inl ⟨by rfl,?_⟩) hHeld ?_ ?_;rotate_left
        ·rintro w' ⟨s0,s1,s2,s3⟩
         go_simp;with_reducible rfl
        rotate_left
        ·simp only [Act.put,List.setIfInBounds_toArray,List.set_cons_zero,List.set_cons_succ,i64_w,i32_w];rfl
        refine one_ (i := 2) (N := some 59) #[true,true,true,false,false] rfl rfl (by kernel_rfl) (by decide) (fun K hK => ?_);refine goes_ Try.func10 (by kernel_rfl) rfl #[.agg #[.slice A0_0 l0_0.length c0_0,.slice A0_1 l0_1.length c0_1]] (by rfl) rfl rfl (by (try simp only [List.map_toArray,List.map_cons,List.map_nil]);first | done | rfl | (simp only [List.length_drop,List.length_take];rfl)) ?_
        with_reducible refine (laws_toCode.calls kj18 _ _ l0_0 _ _ l0_1 t129 t132 _ ?side1 ?side2 ?side3 ?side4 A44.out).mono ?_
        (case side1 => repeat (first | exact (Kd.C_below HR0_0.out HB.out) | (with_reducible refine Kd.C_alloc ?_ _) | (with_reducible refine Kd.C_drewN ?_ _) | (with_reducible refine Kd.C_drew ?_)));(case side2 => exact HC0_0.out);(case side3 => repeat (first | exact (Kd.C_below HR0_1.out HB.out) | (with_reducible refine Kd.C_alloc ?_ _) | (with_reducible refine Kd.C_drewN ?_ _) | (with_reducible refine Kd.C_drew ?_)));(case side4 => exact HC0_1.out)
        rintro e w51 ⟨v130,v133,rfl,ho0,ho1,hb⟩
        refine ⟨_,rfl,?_⟩;have n0_ := Aside0.mk (Kd.R_below (by (with_reducible repeat (first | apply Kd.R_alloc | apply Kd.R_drewN | apply Kd.R_drew));exact HO_10.out) hb);have n1_ := Aside0.mk (Kd.R_elder' (by (with_reducible repeat (first | apply Kd.R_alloc | apply Kd.R_drewN | apply Kd.R_drew));exact HO_123000.out) (Kd.R_base ho0) hb);have n2_ := Aside0.mk (Kd.S_elder' (by (with_reducible repeat (first | apply Kd.S_alloc | apply Kd.S_drewN | apply Kd.S_drew));exact HO_123001.out) (Kd.S_base ho1) hb);have n3_ := Aside0.mk (Kd.R_lower (Kd.R_new' ho0 (Kd.R_lt (by (with_reducible repeat (first | apply Kd.R_alloc | apply Kd.R_drewN | apply Kd.R_drew));exact HO_123000.out))) (below_size (by repeat (first | (with_reducible first | exact HB.out | apply below_alloc | apply pw_below_drewN | apply below_drew1 | refine below_set ?_ GE101.out | refine below_set ?_ GE122.out) | exact HB.out))));have n4_ := Aside0.mk (Kd.S_lower (Kd.S_new' ho1 (Kd.S_lt (by (with_reducible repeat (first | apply Kd.S_alloc | apply Kd.S_drewN | apply Kd.S_drew));exact HO_123001.out))) (below_size (by repeat (first | (with_reducible first | exact HB.out | apply below_alloc | apply pw_below_drewN | apply below_drew1 | refine below_set ?_ GE101.out | refine below_set ?_ GE122.out) | exact HB.out))));have n5_ := Aside0.mk (blk_below (g := gb101) (o := .cells #[.slice A0_0 l0_0.length c0_0,.slice A0_1 l0_1.length c0_1] 25 (0,0)) (by (with_reducible repeat (first | refine blk_drewN ?_ _ | refine blk_drew ?_ | refine blk_alloc ?_ _));exact BK101.out) hb);have n6_ := Aside0.mk (blk_below (g := gb122) (o := .cells #[.slice Ao33 t116.length co33,.slice Ao36 t119.length co36] 33 (0,0)) (by (with_reducible repeat (first | refine blk_drewN ?_ _ | refine blk_drew ?_ | refine blk_alloc ?_ _));exact BK122.out) hb);have n7_ := Aside0.mk (below_step (by repeat (first | (with_reducible first | exact HB.out | apply below_alloc | apply pw_below_drewN | apply below_drew1 | refine below_set ?_ GE101.out | refine below_set ?_ GE122.out) | exact HB.out)) hb);clear HO_10;clear HO_123000;clear HO_123001;clear BK101;clear BK122;clear HB;have HO_10 := n0_;have HO_123000 := n1_;have HO_123001 := n2_;have HO131 := n3_;have HO134 := n4_;have BK101 := n5_;have BK122 := n6_;have HB := n7_;clear n0_ n1_ n2_ n3_ n4_ n5_ n6_ n7_;(try clear hb);(try clear hb2);(try clear hk);(try clear hi);(try clear ho0);(try clear ho1);obtain ⟨Ao52,co52,eo52⟩ := Kd.R_slice HO131.out;(first | subst eo52 | (injection eo52 with f1_ f2_ f3_;have f4_ := f1_.symm;have f5_ := f3_.symm;clear f1_ f2_ f3_;subst f4_;subst f5_));obtain ⟨Ao53,co53,eo53⟩ := Kd.S_slice HO134.out;(first | subst eo53 | (injection eo53 with f1_ f2_ f3_;have f4_ := f1_.symm;have f5_ := f3_.symm;clear f1_ f2_ f3_;subst f4_;subst f5_));refine hK.out _ _ ⟨(blk_cell BK122.out 0).trans rfl,(blk_cell BK122.out 1).trans rfl,(blk_cell BK101.out 0).trans rfl,(blk_cell BK101.out 1).trans rfl⟩ (fun hHeld => ?_);clear hK K;refine norm_ (a' := ?_) ?_ ?_;rotate_left
        ·show Act.put _ (some 59) _ = _
         simp only [Act.put,List.setIfInBounds_toArray,List.set_cons_zero,List.set_cons_succ,i64_w,i32_w];rfl
        refine one_ (i := 3) (N := some 60) #[true,true,true,true,false] rfl rfl (by kernel_rfl) (by decide) (fun K hK => ?_);refine goes_ Try.func13 (by kernel_rfl) rfl #[.agg #[.slice Ao33 t116.length co33,.slice Ao36 t119.length co36],.agg #[.slice Ao52 t129.length co52,.slice Ao53 t132.length co53]] (by rfl) rfl rfl (by (try simp only [List.map_toArray,List.map_cons,List.map_nil]);first | done | rfl | (simp only [List.length_drop,List.length_take];rfl)) ?_
        with_reducible refine (laws_eqCode.calls kj18 _ _ t116 _ _ t119 _ _ t129 _ _ t132 true _ ?side1 ?side2 ?side3 ?side4 ?side5 ?side6 ?side7 ?side8 A45.out).mono ?_
        (case side1 => repeat (first | exact (Kd.R_reads' HO_123000.out).2.2 | (with_reducible refine Kd.C_alloc ?_ _) | (with_reducible refine Kd.C_drewN ?_ _) | (with_reducible refine Kd.C_drew ?_)));(case side2 => exact (Kd.R_reads' HO_123000.out).2.1);(case side3 => repeat (first | exact (Kd.S_reads' HO_123001.out).2.2 | (with_reducible refine Kd.C_alloc ?_ _) | (with_reducible refine Kd.C_drewN ?_ _) | (with_reducible refine Kd.C_drew ?_)));(case side4 => exact (Kd.S_reads' HO_123001.out).2.1);(case side5 => repeat (first | exact (Kd.R_reads' HO131.out).2.2 | (with_reducible refine Kd.C_alloc ?_ _) | (with_reducible refine Kd.C_drewN ?_ _) | (with_reducible refine Kd.C_drew ?_)));(case side6 => exact (Kd.R_reads' HO131.out).2.1);(case side7 => repeat (first | exact (Kd.S_reads' HO134.out).2.2 | (with_reducible refine Kd.C_alloc ?_ _) | (with_reducible refine Kd.C_drewN ?_ _) | (with_reducible refine Kd.C_drew ?_)));(case side8 => exact (Kd.S_reads' HO134.out).2.1)
        rintro e w54 ⟨rfl,hb⟩
        refine ⟨_,rfl,?_⟩;have n0_ := Aside0.mk (Kd.R_below (by (with_reducible repeat (first | apply Kd.R_alloc | apply Kd.R_drewN | apply Kd.R_drew));exact HO_10.out) hb);have n1_ := Aside0.mk (Kd.R_below (by (with_reducible repeat (first | apply Kd.R_alloc | apply Kd.R_drewN | apply Kd.R_drew));exact HO_123000.out) hb);have n2_ := Aside0.mk (Kd.S_below (by (with_reducible repeat (first | apply Kd.S_alloc | apply Kd.S_drewN | apply Kd.S_drew));exact HO_123001.out) hb);have n3_ := Aside0.mk (Kd.R_below (by (with_reducible repeat (first | apply Kd.R_alloc | apply Kd.R_drewN | apply Kd.R_drew));exact HO131.out) hb);have n4_ := Aside0.mk (Kd.S_below (by (with_reducible repeat (first | apply Kd.S_alloc | apply Kd.S_drewN | apply Kd.S_drew));exact HO134.out) hb);have n5_ := Aside0.mk (blk_below (g := gb101) (o := .cells #[.slice A0_0 l0_0.length c0_0,.slice A0_1 l0_1.length c0_1] 25 (0,0)) (by (with_reducible repeat (first | refine blk_drewN ?_ _ | refine blk_drew ?_ | refine blk_alloc ?_ _));exact BK101.out) hb);have n6_ := Aside0.mk (blk_below (g := gb122) (o := .cells #[.slice Ao33 t116.length co33,.slice Ao36 t119.length co36] 33 (0,0)) (by (with_reducible repeat (first | refine blk_drewN ?_ _ | refine blk_drew ?_ | refine blk_alloc ?_ _));exact BK122.out) hb);have n7_ := Aside0.mk (below_step (by repeat (first | (with_reducible first | exact HB.out | apply below_alloc | apply pw_below_drewN | apply below_drew1 | refine below_set ?_ GE101.out | refine below_set ?_ GE122.out) | exact HB.out)) hb);clear HO_10;clear HO_123000;clear HO_123001;clear HO131;clear HO134;clear BK101;clear BK122;clear HB;have HO_10 := n0_;have HO_123000 := n1_;have HO_123001 := n2_;have HO131 := n3_;have HO134 := n4_;have BK101 := n5_;have BK122 := n6_;have HB := n7_;clear n0_ n1_ n2_ n3_ n4_ n5_ n6_ n7_;(try clear hb);(try clear hb2);(try clear hk);(try clear hi);refine hK.out _ _ ⟨(blk_cell BK122.out 0).trans rfl,(blk_cell BK122.out 1).trans rfl,(blk_cell BK101.out 0).trans rfl,(blk_cell BK101.out 1).trans rfl⟩ (fun hHeld => ?_);clear hK K;refine norm_ (a' := ?_) ?_ ?_;rotate_left
        ·show Act.put _ (some 60) _ = _
         simp only [Act.put,List.setIfInBounds_toArray,List.set_cons_zero,List.set_cons_succ,i64_w,i32_w];rfl
        refine pure_ (i := 4) (N := some 61) (v := ?_) (a' := ?_) #[true,true,true,true,true] rfl rfl (by kernel_rfl) (fun _ _ _ h => h) (Or.inl ⟨by rfl,?_⟩) ?_ ?_;rotate_left
        ·intro w';go_simp;with_reducible rfl
        rotate_left
        ·simp only [Act.put,List.setIfInBounds_toArray,List.set_cons_zero,List.set_cons_succ,i64_w,i32_w];rfl
        refine done_ (by kernel_rfl) ?_
        try go_wp2_with (first | ((with_reducible refine gate_callee (f := 21) rfl ?_);refine goesL_ (some 64) rfl rfl Try.func21 (by kernel_rfl) rfl #[.slice A1 l1.length c1] rfl (by (try simp only [List.map_toArray,List.map_cons,List.map_nil]);first | done | rfl | (simp only [List.length_drop,List.length_take];rfl)) ?_;(with_reducible refine (laws_toSightS.calls _ _ l1 t136 _ ?side1 ?side2 A47.out).mono ?_);(case side1 => repeat (first | exact (Kd.C_below HR1.out HB.out) | (with_reducible refine Kd.C_alloc ?_ _) | (with_reducible refine Kd.C_drewN ?_ _) | (with_reducible refine Kd.C_drew ?_)));(case side2 => exact HC1.out);rintro e w55 ⟨v137,rfl,ho0,hb⟩;refine ⟨_,rfl,?_⟩;have n0_ := Aside0.mk (Kd.R_elder' (by (with_reducible repeat (first | apply Kd.R_alloc | apply Kd.R_drewN | apply Kd.R_drew));exact HO_10.out) (Kd.R_base ho0) hb);have n1_ := Aside0.mk (Kd.R_below (by (with_reducible repeat (first | apply Kd.R_alloc | apply Kd.R_drewN | apply Kd.R_drew));exact HO_123000.out) hb);have n2_ := Aside0.mk (Kd.S_below (by (with_reducible repeat (first | apply Kd.S_alloc | apply Kd.S_drewN | apply Kd.S_drew));exact HO_123001.out) hb);have n3_ := Aside0.mk (Kd.R_below (by (with_reducible repeat (first | apply Kd.R_alloc | apply Kd.R_drewN | apply Kd.R_drew));exact HO131.out) hb);have n4_ := Aside0.mk (Kd.S_below (by (with_reducible repeat (first | apply Kd.S_alloc | apply Kd.S_drewN | apply Kd.S_drew));exact HO134.out) hb);have n5_ := Aside0.mk (Kd.R_lower (Kd.R_new' ho0 (Kd.R_lt (by (with_reducible repeat (first | apply Kd.R_alloc | apply Kd.R_drewN | apply Kd.R_drew));exact HO_10.out))) (below_size (by repeat (first | (with_reducible first | exact HB.out | apply below_alloc | apply pw_below_drewN | apply below_drew1 | refine below_set ?_ GE101.out | refine below_set ?_ GE122.out) | exact HB.out))));have n6_ := Aside0.mk (blk_below (g := gb101) (o := .cells #[.slice A0_0 l0_0.length c0_0,.slice A0_1 l0_1.length c0_1] 25 (0,0)) (by (with_reducible repeat (first | refine blk_drewN ?_ _ | refine blk_drew ?_ | refine blk_alloc ?_ _));exact BK101.out) hb);have n7_ := Aside0.mk (blk_below (g := gb122) (o := .cells #[.slice Ao33 t116.length co33,.slice Ao36 t119.length co36] 33 (0,0)) (by (with_reducible repeat (first | refine blk_drewN ?_ _ | refine blk_drew ?_ | refine blk_alloc ?_ _));exact BK122.out) hb);have n8_ := Aside0.mk (below_step (by repeat (first | (with_reducible first | exact HB.out | apply below_alloc | apply pw_below_drewN | apply below_drew1 | refine below_set ?_ GE101.out | refine below_set ?_ GE122.out) | exact HB.out)) hb);clear HO_10;clear HO_123000;clear HO_123001;clear HO131;clear HO134;clear BK101;clear BK122;clear HB;have HO_10 := n0_;have HO_123000 := n1_;have HO_123001 := n2_;have HO131 := n3_;have HO134 := n4_;have HO138 := n5_;have BK101 := n6_;have BK122 := n7_;have HB := n8_;clear n0_ n1_ n2_ n3_ n4_ n5_ n6_ n7_ n8_;(try clear hb);(try clear hb2);(try clear hk);(try clear hi);(try clear ho0);obtain ⟨Ao56,co56,eo56⟩ := Kd.R_slice HO138.out;subst eo56) | ((with_reducible refine gate_callee (f := 12) rfl ?_);refine goesL_ (some 65) rfl rfl Try.func12 (by kernel_rfl) rfl #[.slice Ao39 t123.length co39,.slice Ao56 t136.length co56] rfl (by (try simp only [List.map_toArray,List.map_cons,List.map_nil]);first | done | rfl | (simp only [List.length_drop,List.length_take];rfl)) ?_;(with_reducible refine (laws_eqSightS.calls _ _ t123 _ _ t136 true _ ?side1 ?side2 ?side3 ?side4 A48.out).mono ?_);(case side1 => repeat (first | exact (Kd.R_reads' HO_10.out).2.2 | (with_reducible refine Kd.C_alloc ?_ _) | (with_reducible refine Kd.C_drewN ?_ _) | (with_reducible refine Kd.C_drew ?_)));(case side2 => exact (Kd.R_reads' HO_10.out).2.1);(case side3 => repeat (first | exact (Kd.R_reads' HO138.out).2.2 | (with_reducible refine Kd.C_alloc ?_ _) | (with_reducible refine Kd.C_drewN ?_ _) | (with_reducible refine Kd.C_drew ?_)));(case side4 => exact (Kd.R_reads' HO138.out).2.1);rintro e w57 ⟨rfl,hb⟩;refine ⟨_,rfl,?_⟩;have n0_ := Aside0.mk (Kd.R_below (by (with_reducible repeat (first | apply Kd.R_alloc | apply Kd.R_drewN | apply Kd.R_drew));exact HO_10.out) hb);have n1_ := Aside0.mk (Kd.R_below (by (with_reducible repeat (first | apply Kd.R_alloc | apply Kd.R_drewN | apply Kd.R_drew));exact HO_123000.out) hb);have n2_ := Aside0.mk (Kd.S_below (by (with_reducible repeat (first | apply Kd.S_alloc | apply Kd.S_drewN | apply Kd.S_drew));exact HO_123001.out) hb);have n3_ := Aside0.mk (Kd.R_below (by (with_reducible repeat (first | apply Kd.R_alloc | apply Kd.R_drewN | apply Kd.R_drew));exact HO131.out) hb);have n4_ := Aside0.mk (Kd.S_below (by (with_reducible repeat (first | apply Kd.S_alloc | apply Kd.S_drewN | apply Kd.S_drew));exact HO134.out) hb);have n5_ := Aside0.mk (Kd.R_below (by (with_reducible repeat (first | apply Kd.R_alloc | apply Kd.R_drewN | apply Kd.R_drew));exact HO138.out) hb);have n6_ := Aside0.mk (blk_below (g := gb101) (o := .cells #[.slice A0_0 l0_0.length c0_0,.slice A0_1 l0_1.length c0_1] 25 (0,0)) (by (with_reducible repeat (first | refine blk_drewN ?_ _ | refine blk_drew ?_ | refine blk_alloc ?_ _));exact BK101.out) hb);have n7_ := Aside0.mk (blk_below (g := gb122) (o := .cells #[.slice Ao33 t116.length co33,.slice Ao36 t119.length co36] 33 (0,0)) (by (with_reducible repeat (first | refine blk_drewN ?_ _ | refine blk_drew ?_ | refine blk_alloc ?_ _));exact BK122.out) hb);have n8_ := Aside0.mk (below_step (by repeat (first | (with_reducible first | exact HB.out | apply below_alloc | apply pw_below_drewN | apply below_drew1 | refine below_set ?_ GE101.out | refine below_set ?_ GE122.out) | exact HB.out)) hb);clear HO_10;clear HO_123000;clear HO_123001;clear HO131;clear HO134;clear HO138;clear BK101;clear BK122;clear HB;have HO_10 := n0_;have HO_123000 := n1_;have HO_123001 := n2_;have HO131 := n3_;have HO134 := n4_;have HO138 := n5_;have BK101 := n6_;have BK122 := n7_;have HB := n8_;clear n0_ n1_ n2_ n3_ n4_ n5_ n6_ n7_ n8_;(try clear hb);(try clear hb2);(try clear hk);(try clear hi)))
        go_ret
        exact ⟨by first | rfl | (simp [errW_none,errW_some,IntKind.wrap_i64,wrap64];done) | (simp [errW_none,errW_some] <;> rfl) | (simp [*,errW_none,errW_some] <;> rfl),by repeat (first | (with_reducible first | exact HB.out | apply below_alloc | apply pw_below_drewN | apply below_drew1 | refine below_set ?_ GE101.out | refine below_set ?_ GE122.out) | exact HB.out)⟩
       ·replace c49 := Bool.eq_false_iff.mpr c49;subst c49
        have H1 : (some false) = some r := by rw [if_neg (show ¬ (false = true) by decide)] at H;exact H
        clear H;have H := H1;clear H1;obtain rfl := Option.some.inj H;(try go_wp2);have n0_ := Aside0.mk (Kd.R_drew HO_10.out);have n1_ := Aside0.mk (Kd.R_drew HO_123000.out);have n2_ := Aside0.mk (Kd.S_drew HO_123001.out);have n3_ := Aside0.mk (blk_drew BK101.out);have n4_ := Aside0.mk (blk_drew BK122.out);have n5_ := Aside0.mk (below_drew1 HB.out);clear HO_10;clear HO_123000;clear HO_123001;clear BK101;clear BK122;clear HB;have HO_10 := n0_;have HO_123000 := n1_;have HO_123001 := n2_;have BK101 := n3_;have BK122 := n4_;have HB := n5_;clear n0_ n1_ n2_ n3_ n4_ n5_;refine start_ (n := 5) (S := fun w' => w'.cell? ⟨gb122,0,none⟩ = some (.slice Ao33 t116.length co33) ∧ w'.cell? ⟨gb122,1,none⟩ = some (.slice Ao36 t119.length co36) ∧ w'.cell? ⟨gb101,0,none⟩ = some (.slice A0_0 l0_0.length c0_0) ∧ w'.cell? ⟨gb101,1,none⟩ = some (.slice A0_1 l0_1.length c0_1)) (ds := []) #[false,false,false,false,false] (by kernel_rfl) rfl rfl ⟨(blk_cell BK122.out 0).trans rfl,(blk_cell BK122.out 1).trans rfl,(blk_cell BK101.out 0).trans rfl,(blk_cell BK101.out 1).trans rfl⟩ (fun hHeld => ?_);generalize wc.drew = w58 at HO_10 HO_123000 HO_123001 BK101 BK122 HB hHeld ⊢;refine take_ (i := 0) (N := some 57) (v := ?_) (a' := ?_) #[true,false,false,false,false] rfl rfl (by kernel_rfl) (fun _ _ _ h => h) (Or.inl ⟨by rfl,?_⟩) hHeld ?_ ?_;rotate_left
        ·rintro w' ⟨s0,s1,s2,s3⟩
         go_simp;with_reducible rfl
        rotate_left
        ·simp only [Act.put,List.setIfInBounds_toArray,List.set_cons_zero,List.set_cons_succ,i64_w,i32_w];rfl
        refine take_ (i := 1) (N := some 58) (v := ?_) (a' := ?_) #[true,true,false,false,false] rfl rfl (by kernel_rfl) (fun _ _ _ h => h) (Or.inl ⟨by rfl,?_⟩) hHeld ?_ ?_;rotate_left
        ·rintro w' ⟨s0,s1,s2,s3⟩
         go_simp;with_reducible rfl
        rotate_left
        ·simp only [Act.put,List.setIfInBounds_toArray,List.set_cons_zero,List.set_cons_succ,i64_w,i32_w];rfl
        refine one_ (i := 2) (N := some 59) #[true,true,true,false,false] rfl rfl (by kernel_rfl) (by decide) (fun K hK => ?_);refine goes_ Try.func10 (by kernel_rfl) rfl #[.agg #[.slice A0_0 l0_0.length c0_0,.slice A0_1 l0_1.length c0_1]] (by rfl) rfl rfl (by (try simp only [List.map_toArray,List.map_cons,List.map_nil]);first | done | rfl | (simp only [List.length_drop,List.length_take];rfl)) ?_
        with_reducible refine (laws_toCode.calls kj18 _ _ l0_0 _ _ l0_1 t129 t132 _ ?side1 ?side2 ?side3 ?side4 A44.out).mono ?_
        (case side1 => repeat (first | exact (Kd.C_below HR0_0.out HB.out) | (with_reducible refine Kd.C_alloc ?_ _) | (with_reducible refine Kd.C_drewN ?_ _) | (with_reducible refine Kd.C_drew ?_)));(case side2 => exact HC0_0.out);(case side3 => repeat (first | exact (Kd.C_below HR0_1.out HB.out) | (with_reducible refine Kd.C_alloc ?_ _) | (with_reducible refine Kd.C_drewN ?_ _) | (with_reducible refine Kd.C_drew ?_)));(case side4 => exact HC0_1.out)
        rintro e w59 ⟨v130,v133,rfl,ho0,ho1,hb⟩
        refine ⟨_,rfl,?_⟩;have n0_ := Aside0.mk (Kd.R_below (by (with_reducible repeat (first | apply Kd.R_alloc | apply Kd.R_drewN | apply Kd.R_drew));exact HO_10.out) hb);have n1_ := Aside0.mk (Kd.R_elder' (by (with_reducible repeat (first | apply Kd.R_alloc | apply Kd.R_drewN | apply Kd.R_drew));exact HO_123000.out) (Kd.R_base ho0) hb);have n2_ := Aside0.mk (Kd.S_elder' (by (with_reducible repeat (first | apply Kd.S_alloc | apply Kd.S_drewN | apply Kd.S_drew));exact HO_123001.out) (Kd.S_base ho1) hb);have n3_ := Aside0.mk (Kd.R_lower (Kd.R_new' ho0 (Kd.R_lt (by (with_reducible repeat (first | apply Kd.R_alloc | apply Kd.R_drewN | apply Kd.R_drew));exact HO_123000.out))) (below_size (by repeat (first | (with_reducible first | exact HB.out | apply below_alloc | apply pw_below_drewN | apply below_drew1 | refine below_set ?_ GE101.out | refine below_set ?_ GE122.out) | exact HB.out))));have n4_ := Aside0.mk (Kd.S_lower (Kd.S_new' ho1 (Kd.S_lt (by (with_reducible repeat (first | apply Kd.S_alloc | apply Kd.S_drewN | apply Kd.S_drew));exact HO_123001.out))) (below_size (by repeat (first | (with_reducible first | exact HB.out | apply below_alloc | apply pw_below_drewN | apply below_drew1 | refine below_set ?_ GE101.out | refine below_set ?_ GE122.out) | exact HB.out))));have n5_ := Aside0.mk (blk_below (g := gb101) (o := .cells #[.slice A0_0 l0_0.length c0_0,.slice A0_1 l0_1.length c0_1] 25 (0,0)) (by (with_reducible repeat (first | refine blk_drewN ?_ _ | refine blk_drew ?_ | refine blk_alloc ?_ _));exact BK101.out) hb);have n6_ := Aside0.mk (blk_below (g := gb122) (o := .cells #[.slice Ao33 t116.length co33,.slice Ao36 t119.length co36] 33 (0,0)) (by (with_reducible repeat (first | refine blk_drewN ?_ _ | refine blk_drew ?_ | refine blk_alloc ?_ _));exact BK122.out) hb);have n7_ := Aside0.mk (below_step (by repeat (first | (with_reducible first | exact HB.out | apply below_alloc | apply pw_below_drewN | apply below_drew1 | refine below_set ?_ GE101.out | refine below_set ?_ GE122.out) | exact HB.out)) hb);clear HO_10;clear HO_123000;clear HO_123001;clear BK101;clear BK122;clear HB;have HO_10 := n0_;have HO_123000 := n1_;have HO_123001 := n2_;have HO131 := n3_;have HO134 := n4_;have BK101 := n5_;have BK122 := n6_;have HB := n7_;clear n0_ n1_ n2_ n3_ n4_ n5_ n6_ n7_;(try clear hb);(try clear hb2);(try clear hk);(try clear hi);(try clear ho0);(try clear ho1);obtain ⟨Ao60,co60,eo60⟩ := Kd.R_slice HO131.out;(first | subst eo60 | (injection eo60 with f1_ f2_ f3_;have f4_ := f1_.symm;have f5_ := f3_.symm;clear f1_ f2_ f3_;subst f4_;subst f5_));obtain ⟨Ao61,co61,eo61⟩ := Kd.S_slice HO134.out;(first | subst eo61 | (injection eo61 with f1_ f2_ f3_;have f4_ := f1_.symm;have f5_ := f3_.symm;clear f1_ f2_ f3_;subst f4_;subst f5_));refine hK.out _ _ ⟨(blk_cell BK122.out 0).trans rfl,(blk_cell BK122.out 1).trans rfl,(blk_cell BK101.out 0).trans rfl,(blk_cell BK101.out 1).trans rfl⟩ (fun hHeld => ?_);clear hK K;refine norm_ (a' := ?_) ?_ ?_;rotate_left
        ·show Act.put _ (some 59) _ = _
         simp only [Act.put,List.setIfInBounds_toArray,List.set_cons_zero,List.set_cons_succ,i64_w,i32_w];rfl
        refine one_ (i := 3) (N := some 60) #[true,true,true,true,false] rfl rfl (by kernel_rfl) (by decide) (fun K hK => ?_);refine goes_ Try.func13 (by kernel_rfl) rfl #[.agg #[.slice Ao33 t116.length co33,.slice Ao36 t119.length co36],.agg #[.slice Ao60 t129.length co60,.slice Ao61 t132.length co61]] (by rfl) rfl rfl (by (try simp only [List.map_toArray,List.map_cons,List.map_nil]);first | done | rfl | (simp only [List.length_drop,List.length_take];rfl)) ?_
        with_reducible refine (laws_eqCode.calls kj18 _ _ t116 _ _ t119 _ _ t129 _ _ t132 true _ ?side1 ?side2 ?side3 ?side4 ?side5 ?side6 ?side7 ?side8 A45.out).mono ?_
        (case side1 => repeat (first | exact (Kd.R_reads' HO_123000.out).2.2 | (with_reducible refine Kd.C_alloc ?_ _) | (with_reducible refine Kd.C_drewN ?_ _) | (with_reducible refine Kd.C_drew ?_)));(case side2 => exact (Kd.R_reads' HO_123000.out).2.1);(case side3 => repeat (first | exact (Kd.S_reads' HO_123001.out).2.2 | (with_reducible refine Kd.C_alloc ?_ _) | (with_reducible refine Kd.C_drewN ?_ _) | (with_reducible refine Kd.C_drew ?_)));(case side4 => exact (Kd.S_reads' HO_123001.out).2.1);(case side5 => repeat (first | exact (Kd.R_reads' HO131.out).2.2 | (with_reducible refine Kd.C_alloc ?_ _) | (with_reducible refine Kd.C_drewN ?_ _) | (with_reducible refine Kd.C_drew ?_)));(case side6 => exact (Kd.R_reads' HO131.out).2.1);(case side7 => repeat (first | exact (Kd.S_reads' HO134.out).2.2 | (with_reducible refine Kd.C_alloc ?_ _) | (with_reducible refine Kd.C_drewN ?_ _) | (with_reducible refine Kd.C_drew ?_)));(case side8 => exact (Kd.S_reads' HO134.out).2.1)
        rintro e w62 ⟨rfl,hb⟩
        refine ⟨_,rfl,?_⟩;have n0_ := Aside0.mk (Kd.R_below (by (with_reducible repeat (first | apply Kd.R_alloc | apply Kd.R_drewN | apply Kd.R_drew));exact HO_10.out) hb);have n1_ := Aside0.mk (Kd.R_below (by (with_reducible repeat (first | apply Kd.R_alloc | apply Kd.R_drewN | apply Kd.R_drew));exact HO_123000.out) hb);have n2_ := Aside0.mk (Kd.S_below (by (with_reducible repeat (first | apply Kd.S_alloc | apply Kd.S_drewN | apply Kd.S_drew));exact HO_123001.out) hb);have n3_ := Aside0.mk (Kd.R_below (by (with_reducible repeat (first | apply Kd.R_alloc | apply Kd.R_drewN | apply Kd.R_drew));exact HO131.out) hb);have n4_ := Aside0.mk (Kd.S_below (by (with_reducible repeat (first | apply Kd.S_alloc | apply Kd.S_drewN | apply Kd.S_drew));exact HO134.out) hb);have n5_ := Aside0.mk (blk_below (g := gb101) (o := .cells #[.slice A0_0 l0_0.length c0_0,.slice A0_1 l0_1.length c0_1] 25 (0,0)) (by (with_reducible repeat (first | refine blk_drewN ?_ _ | refine blk_drew ?_ | refine blk_alloc ?_ _));exact BK101.out) hb);have n6_ := Aside0.mk (blk_below (g := gb122) (o := .cells #[.slice Ao33 t116.length co33,.slice Ao36 t119.length co36] 33 (0,0)) (by (with_reducible repeat (first | refine blk_drewN ?_ _ | refine blk_drew ?_ | refine blk_alloc ?_ _));exact BK122.out) hb);have n7_ := Aside0.mk (below_step (by repeat (first | (with_reducible first | exact HB.out | apply below_alloc | apply pw_below_drewN | apply below_drew1 | refine below_set ?_ GE101.out | refine below_set ?_ GE122.out) | exact HB.out)) hb);clear HO_10;clear HO_123000;clear HO_123001;clear HO131;clear HO134;clear BK101;clear BK122;clear HB;have HO_10 := n0_;have HO_123000 := n1_;have HO_123001 := n2_;have HO131 := n3_;have HO134 := n4_;have BK101 := n5_;have BK122 := n6_;have HB := n7_;clear n0_ n1_ n2_ n3_ n4_ n5_ n6_ n7_;(try clear hb);(try clear hb2);(try clear hk);(try clear hi);refine hK.out _ _ ⟨(blk_cell BK122.out 0).trans rfl,(blk_cell BK122.out 1).trans rfl,(blk_cell BK101.out 0).trans rfl,(blk_cell BK101.out 1).trans rfl⟩ (fun hHeld => ?_);clear hK K;refine norm_ (a' := ?_) ?_ ?_;rotate_left
        ·show Act.put _ (some 60) _ = _
         simp only [Act.put,List.setIfInBounds_toArray,List.set_cons_zero,List.set_cons_succ,i64_w,i32_w];rfl
        refine pure_ (i := 4) (N := some 61) (v := ?_) (a' := ?_) #[true,true,true,true,true] rfl rfl (by kernel_rfl) (fun _ _ _ h => h) (Or.inl ⟨by rfl,?_⟩) ?_ ?_;rotate_left
        ·intro w';go_simp;with_reducible rfl
        rotate_left
        ·simp only [Act.put,List.setIfInBounds_toArray,List.set_cons_zero,List.set_cons_succ,i64_w,i32_w];rfl
        refine done_ (by kernel_rfl) ?_
        try go_wp2_with (first | ((with_reducible refine gate_callee (f := 21) rfl ?_);refine goesL_ (some 64) rfl rfl Try.func21 (by kernel_rfl) rfl #[.slice A1 l1.length c1] rfl (by (try simp only [List.map_toArray,List.map_cons,List.map_nil]);first | done | rfl | (simp only [List.length_drop,List.length_take];rfl)) ?_;(with_reducible refine (laws_toSightS.calls _ _ l1 t136 _ ?side1 ?side2 A47.out).mono ?_);(case side1 => repeat (first | exact (Kd.C_below HR1.out HB.out) | (with_reducible refine Kd.C_alloc ?_ _) | (with_reducible refine Kd.C_drewN ?_ _) | (with_reducible refine Kd.C_drew ?_)));(case side2 => exact HC1.out);rintro e w63 ⟨v137,rfl,ho0,hb⟩;refine ⟨_,rfl,?_⟩;have n0_ := Aside0.mk (Kd.R_elder' (by (with_reducible repeat (first | apply Kd.R_alloc | apply Kd.R_drewN | apply Kd.R_drew));exact HO_10.out) (Kd.R_base ho0) hb);have n1_ := Aside0.mk (Kd.R_below (by (with_reducible repeat (first | apply Kd.R_alloc | apply Kd.R_drewN | apply Kd.R_drew));exact HO_123000.out) hb);have n2_ := Aside0.mk (Kd.S_below (by (with_reducible repeat (first | apply Kd.S_alloc | apply Kd.S_drewN | apply Kd.S_drew));exact HO_123001.out) hb);have n3_ := Aside0.mk (Kd.R_below (by (with_reducible repeat (first | apply Kd.R_alloc | apply Kd.R_drewN | apply Kd.R_drew));exact HO131.out) hb);have n4_ := Aside0.mk (Kd.S_below (by (with_reducible repeat (first | apply Kd.S_alloc | apply Kd.S_drewN | apply Kd.S_drew));exact HO134.out) hb);have n5_ := Aside0.mk (Kd.R_lower (Kd.R_new' ho0 (Kd.R_lt (by (with_reducible repeat (first | apply Kd.R_alloc | apply Kd.R_drewN | apply Kd.R_drew));exact HO_10.out))) (below_size (by repeat (first | (with_reducible first | exact HB.out | apply below_alloc | apply pw_below_drewN | apply below_drew1 | refine below_set ?_ GE101.out | refine below_set ?_ GE122.out) | exact HB.out))));have n6_ := Aside0.mk (blk_below (g := gb101) (o := .cells #[.slice A0_0 l0_0.length c0_0,.slice A0_1 l0_1.length c0_1] 25 (0,0)) (by (with_reducible repeat (first | refine blk_drewN ?_ _ | refine blk_drew ?_ | refine blk_alloc ?_ _));exact BK101.out) hb);have n7_ := Aside0.mk (blk_below (g := gb122) (o := .cells #[.slice Ao33 t116.length co33,.slice Ao36 t119.length co36] 33 (0,0)) (by (with_reducible repeat (first | refine blk_drewN ?_ _ | refine blk_drew ?_ | refine blk_alloc ?_ _));exact BK122.out) hb);have n8_ := Aside0.mk (below_step (by repeat (first | (with_reducible first | exact HB.out | apply below_alloc | apply pw_below_drewN | apply below_drew1 | refine below_set ?_ GE101.out | refine below_set ?_ GE122.out) | exact HB.out)) hb);clear HO_10;clear HO_123000;clear HO_123001;clear HO131;clear HO134;clear BK101;clear BK122;clear HB;have HO_10 := n0_;have HO_123000 := n1_;have HO_123001 := n2_;have HO131 := n3_;have HO134 := n4_;have HO138 := n5_;have BK101 := n6_;have BK122 := n7_;have HB := n8_;clear n0_ n1_ n2_ n3_ n4_ n5_ n6_ n7_ n8_;(try clear hb);(try clear hb2);(try clear hk);(try clear hi);(try clear ho0);obtain ⟨Ao64,co64,eo64⟩ := Kd.R_slice HO138.out;subst eo64) | ((with_reducible refine gate_callee (f := 12) rfl ?_);refine goesL_ (some 65) rfl rfl Try.func12 (by kernel_rfl) rfl #[.slice Ao39 t123.length co39,.slice Ao64 t136.length co64] rfl (by (try simp only [List.map_toArray,List.map_cons,List.map_nil]);first | done | rfl | (simp only [List.length_drop,List.length_take];rfl)) ?_;(with_reducible refine (laws_eqSightS.calls _ _ t123 _ _ t136 false _ ?side1 ?side2 ?side3 ?side4 A48.out).mono ?_);(case side1 => repeat (first | exact (Kd.R_reads' HO_10.out).2.2 | (with_reducible refine Kd.C_alloc ?_ _) | (with_reducible refine Kd.C_drewN ?_ _) | (with_reducible refine Kd.C_drew ?_)));(case side2 => exact (Kd.R_reads' HO_10.out).2.1);(case side3 => repeat (first | exact (Kd.R_reads' HO138.out).2.2 | (with_reducible refine Kd.C_alloc ?_ _) | (with_reducible refine Kd.C_drewN ?_ _) | (with_reducible refine Kd.C_drew ?_)));(case side4 => exact (Kd.R_reads' HO138.out).2.1);rintro e w65 ⟨rfl,hb⟩;refine ⟨_,rfl,?_⟩;have n0_ := Aside0.mk (Kd.R_below (by (with_reducible repeat (first | apply Kd.R_alloc | apply Kd.R_drewN | apply Kd.R_drew));exact HO_10.out) hb);have n1_ := Aside0.mk (Kd.R_below (by (with_reducible repeat (first | apply Kd.R_alloc | apply Kd.R_drewN | apply Kd.R_drew));exact HO_123000.out) hb);have n2_ := Aside0.mk (Kd.S_below (by (with_reducible repeat (first | apply Kd.S_alloc | apply Kd.S_drewN | apply Kd.S_drew));exact HO_123001.out) hb);have n3_ := Aside0.mk (Kd.R_below (by (with_reducible repeat (first | apply Kd.R_alloc | apply Kd.R_drewN | apply Kd.R_drew));exact HO131.out) hb);have n4_ := Aside0.mk (Kd.S_below (by (with_reducible repeat (first | apply Kd.S_alloc | apply Kd.S_drewN | apply Kd.S_drew));exact HO134.out) hb);have n5_ := Aside0.mk (Kd.R_below (by (with_reducible repeat (first | apply Kd.R_alloc | apply Kd.R_drewN | apply Kd.R_drew));exact HO138.out) hb);have n6_ := Aside0.mk (blk_below (g := gb101) (o := .cells #[.slice A0_0 l0_0.length c0_0,.slice A0_1 l0_1.length c0_1] 25 (0,0)) (by (with_reducible repeat (first | refine blk_drewN ?_ _ | refine blk_drew ?_ | refine blk_alloc ?_ _));exact BK101.out) hb);have n7_ := Aside0.mk (blk_below (g := gb122) (o := .cells #[.slice Ao33 t116.length co33,.slice Ao36 t119.length co36] 33 (0,0)) (by (with_reducible repeat (first | refine blk_drewN ?_ _ | refine blk_drew ?_ | refine blk_alloc ?_ _));exact BK122.out) hb);have n8_ := Aside0.mk (below_step (by repeat (first | (with_reducible first | exact HB.out | apply below_alloc | apply pw_below_drewN | apply below_drew1 | refine below_set ?_ GE101.out | refine below_set ?_ GE122.out) | exact HB.out)) hb);clear HO_10;clear HO_123000;clear HO_123001;clear HO131;clear HO134;clear HO138;clear BK101;clear BK122;clear HB;have HO_10 := n0_;have HO_123000 := n1_;have HO_123001 := n2_;have HO131 := n3_;have HO134 := n4_;have HO138 := n5_;have BK101 := n6_;have BK122 := n7_;have HB := n8_;clear n0_ n1_ n2_ n3_ n4_ n5_ n6_ n7_ n8_;(try clear hb);(try clear hb2);(try clear hk);(try clear hi)))
        go_ret
        exact ⟨by first | rfl | (simp [errW_none,errW_some,IntKind.wrap_i64,wrap64];done) | (simp [errW_none,errW_some] <;> rfl) | (simp [*,errW_none,errW_some] <;> rfl),by repeat (first | (with_reducible first | exact HB.out | apply below_alloc | apply pw_below_drewN | apply below_drew1 | refine below_set ?_ GE101.out | refine below_set ?_ GE122.out) | exact HB.out)⟩
      ·replace c46 := Bool.eq_false_iff.mpr c46;subst c46
       have H1 : (some false) = some r := by rw [if_neg (show ¬ (false = true) by decide)] at H;exact H
       clear H;have H := H1;clear H1;obtain rfl := Option.some.inj H;(try go_wp2);have n0_ := Aside0.mk (Kd.R_drew HO_10.out);have n1_ := Aside0.mk (Kd.R_drew HO_123000.out);have n2_ := Aside0.mk (Kd.S_drew HO_123001.out);have n3_ := Aside0.mk (blk_drew BK101.out);have n4_ := Aside0.mk (blk_drew BK122.out);have n5_ := Aside0.mk (below_drew1 HB.out);clear HO_10;clear HO_123000;clear HO_123001;clear BK101;clear BK122;clear HB;have HO_10 := n0_;have HO_123000 := n1_;have HO_123001 := n2_;have BK101 := n3_;have BK122 := n4_;have HB := n5_;clear n0_ n1_ n2_ n3_ n4_ n5_;refine start_ (n := 5) (S := fun w' => w'.cell? ⟨gb122,0,none⟩ = some (.slice Ao33 t116.length co33) ∧ w'.cell? ⟨gb122,1,none⟩ = some (.slice Ao36 t119.length co36) ∧ w'.cell? ⟨gb101,0,none⟩ = some (.slice A0_0 l0_0.length c0_0) ∧ w'.cell? ⟨gb101,1,none⟩ = some (.slice A0_1 l0_1.length c0_1)) (ds := []) #[false,false,false,false,false] (by kernel_rfl) rfl rfl ⟨(blk_cell BK122.out 0).trans rfl,(blk_cell BK122.out 1).trans rfl,(blk_cell BK101.out 0).trans rfl,(blk_cell BK101.out 1).trans rfl⟩ (fun hHeld => ?_);generalize wc.drew = w66 at HO_10 HO_123000 HO_123001 BK101 BK122 HB hHeld ⊢;refine take_ (i := 0) (N := some 57) (v := ?_) (a' := ?_) #[true,false,false,false,false] rfl rfl (by kernel_rfl) (fun _ _ _ h => h) (Or.inl ⟨by rfl,?_⟩) hHeld ?_ ?_;rotate_left
       ·rintro w' ⟨s0,s1,s2,s3⟩
        go_simp;with_reducible rfl
       rotate_left
       ·simp only [Act.put,List.setIfInBounds_toArray,List.set_cons_zero,List.set_cons_succ,i64_w,i32_w];rfl
       refine take_ (i := 1) (N := some 58) (v := ?_) (a' := ?_) #[true,true,false,false,false] rfl rfl (by kernel_rfl) (fun _ _ _ h => h) (Or.inl ⟨by rfl,?_⟩) hHeld ?_ ?_;rotate_left
       ·rintro w' ⟨s0,s1,s2,s3⟩
        go_simp;with_reducible rfl
       rotate_left
       ·simp only [Act.put,List.setIfInBounds_toArray,List.set_cons_zero,List.set_cons_succ,i64_w,i32_w];rfl
       refine one_ (i := 2) (N := some 59) #[true,true,true,false,false] rfl rfl (by kernel_rfl) (by decide) (fun K hK => ?_);refine goes_ Try.func10 (by kernel_rfl) rfl #[.agg #[.slice A0_0 l0_0.length c0_0,.slice A0_1 l0_1.length c0_1]] (by rfl) rfl rfl (by (try simp only [List.map_toArray,List.map_cons,List.map_nil]);first | done | rfl | (simp only [List.length_drop,List.length_take];rfl)) ?_
       with_reducible refine (laws_toCode.calls kj18 _ _ l0_0 _ _ l0_1 t129 t132 _ ?side1 ?side2 ?side3 ?side4 A44.out).mono ?_
       (case side1 => repeat (first | exact (Kd.C_below HR0_0.out HB.out) | (with_reducible refine Kd.C_alloc ?_ _) | (with_reducible refine Kd.C_drewN ?_ _) | (with_reducible refine Kd.C_drew ?_)));(case side2 => exact HC0_0.out);(case side3 => repeat (first | exact (Kd.C_below HR0_1.out HB.out) | (with_reducible refine Kd.C_alloc ?_ _) | (with_reducible refine Kd.C_drewN ?_ _) | (with_reducible refine Kd.C_drew ?_)));(case side4 => exact HC0_1.out)
       rintro e w67 ⟨v130,v133,rfl,ho0,ho1,hb⟩
       refine ⟨_,rfl,?_⟩;have n0_ := Aside0.mk (Kd.R_below (by (with_reducible repeat (first | apply Kd.R_alloc | apply Kd.R_drewN | apply Kd.R_drew));exact HO_10.out) hb);have n1_ := Aside0.mk (Kd.R_elder' (by (with_reducible repeat (first | apply Kd.R_alloc | apply Kd.R_drewN | apply Kd.R_drew));exact HO_123000.out) (Kd.R_base ho0) hb);have n2_ := Aside0.mk (Kd.S_elder' (by (with_reducible repeat (first | apply Kd.S_alloc | apply Kd.S_drewN | apply Kd.S_drew));exact HO_123001.out) (Kd.S_base ho1) hb);have n3_ := Aside0.mk (Kd.R_lower (Kd.R_new' ho0 (Kd.R_lt (by (with_reducible repeat (first | apply Kd.R_alloc | apply Kd.R_drewN | apply Kd.R_drew));exact HO_123000.out))) (below_size (by repeat (first | (with_reducible first | exact HB.out | apply below_alloc | apply pw_below_drewN | apply below_drew1 | refine below_set ?_ GE101.out | refine below_set ?_ GE122.out) | exact HB.out))));have n4_ := Aside0.mk (Kd.S_lower (Kd.S_new' ho1 (Kd.S_lt (by (with_reducible repeat (first | apply Kd.S_alloc | apply Kd.S_drewN | apply Kd.S_drew));exact HO_123001.out))) (below_size (by repeat (first | (with_reducible first | exact HB.out | apply below_alloc | apply pw_below_drewN | apply below_drew1 | refine below_set ?_ GE101.out | refine below_set ?_ GE122.out) | exact HB.out))));have n5_ := Aside0.mk (blk_below (g := gb101) (o := .cells #[.slice A0_0 l0_0.length c0_0,.slice A0_1 l0_1.length c0_1] 25 (0,0)) (by (with_reducible repeat (first | refine blk_drewN ?_ _ | refine blk_drew ?_ | refine blk_alloc ?_ _));exact BK101.out) hb);have n6_ := Aside0.mk (blk_below (g := gb122) (o := .cells #[.slice Ao33 t116.length co33,.slice Ao36 t119.length co36] 33 (0,0)) (by (with_reducible repeat (first | refine blk_drewN ?_ _ | refine blk_drew ?_ | refine blk_alloc ?_ _));exact BK122.out) hb);have n7_ := Aside0.mk (below_step (by repeat (first | (with_reducible first | exact HB.out | apply below_alloc | apply pw_below_drewN | apply below_drew1 | refine below_set ?_ GE101.out | refine below_set ?_ GE122.out) | exact HB.out)) hb);clear HO_10;clear HO_123000;clear HO_123001;clear BK101;clear BK122;clear HB;have HO_10 := n0_;have HO_123000 := n1_;have HO_123001 := n2_;have HO131 := n3_;have HO134 := n4_;have BK101 := n5_;have BK122 := n6_;have HB := n7_;clear n0_ n1_ n2_ n3_ n4_ n5_ n6_ n7_;(try clear hb);(try clear hb2);(try clear hk);(try clear hi);(try clear ho0);(try clear ho1);obtain ⟨Ao68,co68,eo68⟩ := Kd.R_slice HO131.out;(first | subst eo68 | (injection eo68 with f1_ f2_ f3_;have f4_ := f1_.symm;have f5_ := f3_.symm;clear f1_ f2_ f3_;subst f4_;subst f5_));obtain ⟨Ao69,co69,eo69⟩ := Kd.S_slice HO134.out;(first | subst eo69 | (injection eo69 with f1_ f2_ f3_;have f4_ := f1_.symm;have f5_ := f3_.symm;clear f1_ f2_ f3_;subst f4_;subst f5_));refine hK.out _ _ ⟨(blk_cell BK122.out 0).trans rfl,(blk_cell BK122.out 1).trans rfl,(blk_cell BK101.out 0).trans rfl,(blk_cell BK101.out 1).trans rfl⟩ (fun hHeld => ?_);clear hK K;refine norm_ (a' := ?_) ?_ ?_;rotate_left
       ·show Act.put _ (some 59) _ = _
        simp only [Act.put,List.setIfInBounds_toArray,List.set_cons_zero,List.set_cons_succ,i64_w,i32_w];rfl
       refine one_ (i := 3) (N := some 60) #[true,true,true,true,false] rfl rfl (by kernel_rfl) (by decide) (fun K hK => ?_);refine goes_ Try.func13 (by kernel_rfl) rfl #[.agg #[.slice Ao33 t116.length co33,.slice Ao36 t119.length co36],.agg #[.slice Ao68 t129.length co68,.slice Ao69 t132.length co69]] (by rfl) rfl rfl (by (try simp only [List.map_toArray,List.map_cons,List.map_nil]);first | done | rfl | (simp only [List.length_drop,List.length_take];rfl)) ?_
       with_reducible refine (laws_eqCode.calls kj18 _ _ t116 _ _ t119 _ _ t129 _ _ t132 false _ ?side1 ?side2 ?side3 ?side4 ?side5 ?side6 ?side7 ?side8 A45.out).mono ?_
       (case side1 => repeat (first | exact (Kd.R_reads' HO_123000.out).2.2 | (with_reducible refine Kd.C_alloc ?_ _) | (with_reducible refine Kd.C_drewN ?_ _) | (with_reducible refine Kd.C_drew ?_)));(case side2 => exact (Kd.R_reads' HO_123000.out).2.1);(case side3 => repeat (first | exact (Kd.S_reads' HO_123001.out).2.2 | (with_reducible refine Kd.C_alloc ?_ _) | (with_reducible refine Kd.C_drewN ?_ _) | (with_reducible refine Kd.C_drew ?_)));(case side4 => exact (Kd.S_reads' HO_123001.out).2.1);(case side5 => repeat (first | exact (Kd.R_reads' HO131.out).2.2 | (with_reducible refine Kd.C_alloc ?_ _) | (with_reducible refine Kd.C_drewN ?_ _) | (with_reducible refine Kd.C_drew ?_)));(case side6 => exact (Kd.R_reads' HO131.out).2.1);(case side7 => repeat (first | exact (Kd.S_reads' HO134.out).2.2 | (with_reducible refine Kd.C_alloc ?_ _) | (with_reducible refine Kd.C_drewN ?_ _) | (with_reducible refine Kd.C_drew ?_)));(case side8 => exact (Kd.S_reads' HO134.out).2.1)
       rintro e w70 ⟨rfl,hb⟩
       refine ⟨_,rfl,?_⟩;have n0_ := Aside0.mk (Kd.R_below (by (with_reducible repeat (first | apply Kd.R_alloc | apply Kd.R_drewN | apply Kd.R_drew));exact HO_10.out) hb);have n1_ := Aside0.mk (Kd.R_below (by (with_reducible repeat (first | apply Kd.R_alloc | apply Kd.R_drewN | apply Kd.R_drew));exact HO_123000.out) hb);have n2_ := Aside0.mk (Kd.S_below (by (with_reducible repeat (first | apply Kd.S_alloc | apply Kd.S_drewN | apply Kd.S_drew));exact HO_123001.out) hb);have n3_ := Aside0.mk (Kd.R_below (by (with_reducible repeat (first | apply Kd.R_alloc | apply Kd.R_drewN | apply Kd.R_drew));exact HO131.out) hb);have n4_ := Aside0.mk (Kd.S_below (by (with_reducible repeat (first | apply Kd.S_alloc | apply Kd.S_drewN | apply Kd.S_drew));exact HO134.out) hb);have n5_ := Aside0.mk (blk_below (g := gb101) (o := .cells #[.slice A0_0 l0_0.length c0_0,.slice A0_1 l0_1.length c0_1] 25 (0,0)) (by (with_reducible repeat (first | refine blk_drewN ?_ _ | refine blk_drew ?_ | refine blk_alloc ?_ _));exact BK101.out) hb);have n6_ := Aside0.mk (blk_below (g := gb122) (o := .cells #[.slice Ao33 t116.length co33,.slice Ao36 t119.length co36] 33 (0,0)) (by (with_reducible repeat (first | refine blk_drewN ?_ _ | refine blk_drew ?_ | refine blk_alloc ?_ _));exact BK122.out) hb);have n7_ := Aside0.mk (below_step (by repeat (first | (with_reducible first | exact HB.out | apply below_alloc | apply pw_below_drewN | apply below_drew1 | refine below_set ?_ GE101.out | refine below_set ?_ GE122.out) | exact HB.out)) hb);clear HO_10;clear HO_123000;clear HO_123001;clear HO131;clear HO134;clear BK101;clear BK122;clear HB;have HO_10 := n0_;have HO_123000 := n1_;have HO_123001 := n2_;have HO131 := n3_;have HO134 := n4_;have BK101 := n5_;have BK122 := n6_;have HB := n7_;clear n0_ n1_ n2_ n3_ n4_ n5_ n6_ n7_;(try clear hb);(try clear hb2);(try clear hk);(try clear hi);refine hK.out _ _ ⟨(blk_cell BK122.out 0).trans rfl,(blk_cell BK122.out 1).trans rfl,(blk_cell BK101.out 0).trans rfl,(blk_cell BK101.out 1).trans rfl⟩ (fun hHeld => ?_);clear hK K;refine norm_ (a' := ?_) ?_ ?_;rotate_left
       ·show Act.put _ (some 60) _ = _
        simp only [Act.put,List.setIfInBounds_toArray,List.set_cons_zero,List.set_cons_succ,i64_w,i32_w];rfl
       refine pure_ (i := 4) (N := some 61) (v := ?_) (a' := ?_) #[true,true,true,true,true] rfl rfl (by kernel_rfl) (fun _ _ _ h => h) (Or.inl ⟨by rfl,?_⟩) ?_ ?_;rotate_left
       ·intro w';go_simp;with_reducible rfl
       rotate_left
       ·simp only [Act.put,List.setIfInBounds_toArray,List.set_cons_zero,List.set_cons_succ,i64_w,i32_w];rfl
       refine done_ (by kernel_rfl) ?_;(try go_wp2)
       go_ret
       exact ⟨by first | rfl | (simp [errW_none,errW_some,IntKind.wrap_i64,wrap64];done) | (simp [errW_none,errW_some] <;> rfl) | (simp [*,errW_none,errW_some] <;> rfl),by repeat (first | (with_reducible first | exact HB.out | apply below_alloc | apply pw_below_drewN | apply below_drew1 | refine below_set ?_ GE101.out | refine below_set ?_ GE122.out) | exact HB.out)⟩
end Go.Proofs.Ytgfknljhogfeaaa.G
end

section
namespace Go.Proofs.Ytgfknljhogfeaaa.G
open Go.RowKit Go.Proofs.YtgfknljhogfeaaaW.PrintWords Go.Proofs.YtgfknljhogfeaaaW.PrintLast Go.Proofs.YtgfknljhogfeaaaW.PrintMore
attribute [local go_sem] max2_int min2_int max_two min_two max_three min_three max_four min_four
set_option linter.unusedVariables false
set_option linter.unusedSimpArgs false
open Go.ChangeShapes Go.WideShapes Go.Deep in
structure Opens {α : Type} (P : Program) (t : TypeId) (d : Kd α) (Wf : α → Prop) : Prop where
  sz : P.cellsOf t = d.sz
  op : ∀ {H : Type} {enc : TypeId × Value → H} {w : World} {base : Nat} {spare : Nat → Bool} {held : Bool} {fuel : Nat} {cs : List Value} {x : DataW H × List MemPlace}, DataW.trod enc P w base spare held fuel t cs = some x → ∃ a : α, d.K w a cs ∧ Wf a
theorem opens_int {P : Program} {t : TypeId} {k : IntKind} (ht : P.underlying t = some (.int k)) (hC : P.cellsOf t = 1) : Opens P t (Kd.int k) (fun n => (Lit.int k n).wf = true) where
  sz := hC
  op := fun h => by
    obtain ⟨n, rfl, _, hw⟩ := DataW.trod_int ht h
    exact ⟨n, rfl, hw⟩
theorem list_of {α : Type} {Q : Nat → α → Prop} : ∀ n, (∀ i, i < n → ∃ y, Q i y) → ∃ l : List α, l.length = n ∧ ∀ i y, l[i]? = some y → Q i y
  | 0, _ => ⟨[], rfl, fun i y h => by simp at h⟩
  | n + 1, h => by
    obtain ⟨l, hl, hq⟩ := list_of n (fun i hi => h i (by omega))
    obtain ⟨y, hy⟩ := h n (by omega)
    refine ⟨l ++ [y], by simp [hl], fun i z hz => ?_⟩
    rcases Nat.lt_or_ge i l.length with hi | hi
    · rw [List.getElem?_append_left hi] at hz
      exact hq i z hz
    · rw [List.getElem?_append_right hi] at hz
      have : i - l.length = 0 := by
        rcases Nat.eq_zero_or_pos (i - l.length) with h0 | h0
        · exact h0
        · rw [List.getElem?_eq_none (by simp; omega)] at hz
          cases hz
      rw [this] at hz
      have e : y = z := by simpa using hz
      subst e
      have : i = n := by omega
      subst this
      exact hy
theorem opens_slice {α : Type} {P : Program} {t e : TypeId} {d : Kd α} {Wf : α → Prop} (ht : P.underlying t = some (.slice e)) (hC : P.cellsOf t = 1) (he : Opens P e d Wf) : Opens P t (Kd.slice e d) (fun l => l.length ≤ 9223372036854775807 ∧ ∀ x ∈ l, Wf x) where
  sz := hC
  op := fun {H enc w base spare held fuel cs x} h => by
    rcases Go.Deep.open_slice ht h with ⟨rfl, _⟩ | ⟨a, len, cap, m, n, D, Pl, rfl, hb, hl, hm, hmm, _, hi⟩
    · exact ⟨[], ⟨none, 0, rfl, Nat.le_refl _, rfl, by simp, fun h => absurd h (by simp)⟩, by simp, by simp⟩
    · have hlen : len ≤ m := by rw [hmm]; split <;> omega
      obtain ⟨l, hll, hq⟩ := list_of (Q := fun i y => (∃ c, c.length = d.sz ∧ d.K w y c ∧ ∀ j u, c[j]? = some u → w.cell? (a.add (i * d.sz + j)) = some u) ∧ Wf y) len (fun i him => by
        obtain ⟨cs', hc, ht'⟩ := hi i (by omega)
        obtain ⟨y, hK, hW⟩ := he.op ht'
        obtain ⟨_, hcl, hat⟩ := World.cells?_some hc
        refine ⟨y, ⟨cs', d.K_len hK, hK, fun j u hu => ?_⟩, hW⟩
        have hj : j < cs'.length := (List.getElem?_eq_some_iff.1 hu).1
        have h1 := hat j (by rw [he.sz, ← d.K_len hK]; exact hj)
        rw [← he.sz, ← Go.Deep.add_add, h1, hu])
      refine ⟨l, ⟨some a, cap, by rw [hll], by rw [hll]; exact hl, rfl, by rw [hll]; have := hm; unfold maxLen at this; omega, fun _ => ⟨a, rfl, fun j p hj => (hq j p hj).1⟩⟩, by rw [hll]; have := hm; unfold maxLen at this; omega, fun y hy => ?_⟩
      obtain ⟨j, hj, rfl⟩ := List.mem_iff_getElem.1 hy
      exact (hq j _ (List.getElem?_eq_getElem hj)).2
def offs (P : Program) : List TypeId → Nat → Nat
  | [], _ => 0
  | _ :: _, 0 => 0
  | t :: ts, i + 1 => P.cellsOf t + offs P ts i
def OpensF {α : Type} (P : Program) (ts : List TypeId) (d : Kd α) (Wf : α → Prop) : Prop :=
  ∀ {H : Type} {enc : TypeId × Value → H} {w : World} {base : Nat} {spare : Nat → Bool} {held : Bool} {n : Nat} {cs : List Value}, cs.length = d.sz → (∀ i t, ts[i]? = some t → ∃ x, DataW.trod enc P w base spare held n t ((cs.drop (offs P ts i)).take (P.cellsOf t)) = some x) → ∃ a : α, d.K w a cs ∧ Wf a
theorem opensF_one {α : Type} {P : Program} {t : TypeId} {d : Kd α} {Wf : α → Prop} (h : Opens P t d Wf) : OpensF P [t] d Wf := fun {H enc w base spare held n cs} hl hf => by
  obtain ⟨x, hx⟩ := hf 0 t rfl
  simp only [offs, List.drop_zero] at hx
  rw [List.take_of_length_le (by rw [hl, h.sz]; exact Nat.le_refl _)] at hx
  exact h.op hx
theorem opensF_cons {α β : Type} {P : Program} {t : TypeId} {ts : List TypeId} {d : Kd α} {d' : Kd β} {Wf : α → Prop} {Wf' : β → Prop} (h : Opens P t d Wf) (h' : OpensF P ts d' Wf') : OpensF P (t :: ts) (Kd.pair d d') (fun x => Wf x.1 ∧ Wf' x.2) := fun {H enc w base spare held n cs} hl hf => by
  have hl' : cs.length = d.sz + d'.sz := hl
  obtain ⟨x, hx⟩ := hf 0 t rfl
  simp only [offs, List.drop_zero] at hx
  obtain ⟨a, hK, hW⟩ := h.op hx
  obtain ⟨b, hK', hW'⟩ := h' (enc := enc) (w := w) (base := base) (spare := spare) (held := held) (n := n) (cs := cs.drop d.sz) (by rw [List.length_drop, hl']; omega) (fun i t' ht' => by
    obtain ⟨y, hy⟩ := hf (i + 1) t' (by simpa using ht')
    refine ⟨y, ?_⟩
    rw [List.drop_drop]
    simpa only [offs, h.sz] using hy)
  refine ⟨(a, b), ⟨_, _, (List.take_append_drop d.sz cs).symm, ?_, hK'⟩, hW, hW'⟩
  rw [← h.sz]
  exact hK
theorem opens_struct {α β : Type} {P : Program} {t : TypeId} {fs : Array Field} {d : Kd α} {Wf : α → Prop} (f : β → α) (g : α → β) (hfg : ∀ a, f (g a) = a) (ht : P.underlying t = some (.struct fs)) (hC : P.cellsOf t = d.sz)
    (ho : ((List.range fs.size).all fun i => decide ((fs[i]?.map Field.offset) = some (offs P (fs.toList.map Field.type) i))) = true) (h : OpensF P (fs.toList.map Field.type) d Wf) : Opens P t (Kd.iso d f) (fun x => Wf (f x)) where
  sz := hC
  op := fun {H enc w base spare held fuel cs x} hx => by
    obtain ⟨xs, n, _, _, hlen, hxl, hf⟩ := DataW.trod_struct ht hx
    obtain ⟨a, hK, hW⟩ := h (enc := enc) (w := w) (base := base) (spare := spare) (held := held) (n := n) (cs := cs) (by rw [hlen, hC]) (fun i t' ht' => by
      have hi : i < fs.size := by
        have := (List.getElem?_eq_some_iff.1 ht').1
        simpa using this
      have e : fs[i]? = some fs[i] := Array.getElem?_eq_getElem hi
      have et : fs[i].type = t' := by
        rw [List.getElem?_map] at ht'
        have : fs.toList[i]? = some fs[i] := by simp [hi]
        rw [this] at ht'
        simpa using ht'
      have eo := of_decide_eq_true (List.all_eq_true.1 ho i (List.mem_range.2 hi))
      rw [e] at eo
      have eo' : fs[i].offset = offs P (fs.toList.map Field.type) i := by simpa using eo
      have h1 := hf i fs[i] e
      rw [et, eo'] at h1
      exact ⟨_, h1.trans (List.getElem?_eq_getElem (show i < xs.length by omega))⟩)
    exact ⟨g a, by show d.K w (f (g a)) cs; rw [hfg]; exact hK, by show Wf (f (g a)); rw [hfg]; exact hW⟩
theorem offs_rep {P : Program} {e : TypeId} : ∀ (n i : Nat), i ≤ n → offs P (List.replicate n e) i = i * P.cellsOf e
  | 0, i, h => by
    obtain rfl : i = 0 := by omega
    simp [offs]
  | n + 1, 0, _ => by simp [List.replicate_succ, offs]
  | n + 1, i + 1, h => by
    rw [List.replicate_succ]
    show P.cellsOf e + offs P (List.replicate n e) i = _
    rw [offs_rep n i (by omega), Nat.succ_mul, Nat.add_comm]
theorem opens_array {α β : Type} {P : Program} {t e : TypeId} {n : Nat} {d : Kd α} {Wf : α → Prop} (f : β → α) (g : α → β) (hfg : ∀ a, f (g a) = a) (ht : P.underlying t = some (.array n e)) (hC : P.cellsOf t = d.sz)
    (h : OpensF P (List.replicate n e) d Wf) : Opens P t (Kd.iso d f) (fun x => Wf (f x)) where
  sz := hC
  op := fun {H enc w base spare held fuel cs x} hx => by
    obtain ⟨xs, m, _, _, hlen, hxl, hf⟩ := DataW.trod_array ht hx
    obtain ⟨a, hK, hW⟩ := h (enc := enc) (w := w) (base := base) (spare := spare) (held := held) (n := m) (cs := cs) (by rw [hlen, hC]) (fun i t' ht' => by
      have hi : i < n := by
        have := (List.getElem?_eq_some_iff.1 ht').1
        simpa using this
      have et : e = t' := by
        rw [List.getElem?_replicate, if_pos hi] at ht'
        exact Option.some.inj ht'
      subst et
      have h1 := hf i hi
      rw [offs_rep n i (by omega)]
      exact ⟨_, h1.trans (List.getElem?_eq_getElem (show i < xs.length by omega))⟩)
    exact ⟨g a, by show d.K w (f (g a)) cs; rw [hfg]; exact hK, by show Wf (f (g a)); rw [hfg]; exact hW⟩
theorem op5 : Opens Try.prog 5 (Kd.int .u8) (fun x : Int => (Lit.int .u8 x).wf = true) := opens_int (k := .u8) Try.underlying5 (by kernel_rfl)
theorem op67 : Opens Try.prog 67 k67 (fun x : S67 => (Lit.int .u8 x.f0).wf = true ∧ (Lit.int .u8 x.f1).wf = true ∧ (Lit.int .u8 x.f2).wf = true ∧ (Lit.int .u8 x.f3).wf = true ∧ (Lit.int .u8 x.f4).wf = true ∧ (Lit.int .u8 x.f5).wf = true ∧ (Lit.int .u8 x.f6).wf = true ∧ (Lit.int .u8 x.f7).wf = true ∧ (Lit.int .u8 x.f8).wf = true ∧ (Lit.int .u8 x.f9).wf = true ∧ (Lit.int .u8 x.f10).wf = true ∧ (Lit.int .u8 x.f11).wf = true ∧ (Lit.int .u8 x.f12).wf = true ∧ (Lit.int .u8 x.f13).wf = true ∧ (Lit.int .u8 x.f14).wf = true ∧ (Lit.int .u8 x.f15).wf = true ∧ (Lit.int .u8 x.f16).wf = true ∧ (Lit.int .u8 x.f17).wf = true ∧ (Lit.int .u8 x.f18).wf = true ∧ (Lit.int .u8 x.f19).wf = true ∧ (Lit.int .u8 x.f20).wf = true ∧ (Lit.int .u8 x.f21).wf = true ∧ (Lit.int .u8 x.f22).wf = true ∧ (Lit.int .u8 x.f23).wf = true) := opens_array (fun x : S67 => (x.f0, x.f1, x.f2, x.f3, x.f4, x.f5, x.f6, x.f7, x.f8, x.f9, x.f10, x.f11, x.f12, x.f13, x.f14, x.f15, x.f16, x.f17, x.f18, x.f19, x.f20, x.f21, x.f22, x.f23)) (fun a => ⟨a.1, a.2.1, a.2.2.1, a.2.2.2.1, a.2.2.2.2.1, a.2.2.2.2.2.1, a.2.2.2.2.2.2.1, a.2.2.2.2.2.2.2.1, a.2.2.2.2.2.2.2.2.1, a.2.2.2.2.2.2.2.2.2.1, a.2.2.2.2.2.2.2.2.2.2.1, a.2.2.2.2.2.2.2.2.2.2.2.1, a.2.2.2.2.2.2.2.2.2.2.2.2.1, a.2.2.2.2.2.2.2.2.2.2.2.2.2.1, a.2.2.2.2.2.2.2.2.2.2.2.2.2.2.1, a.2.2.2.2.2.2.2.2.2.2.2.2.2.2.2.1, a.2.2.2.2.2.2.2.2.2.2.2.2.2.2.2.2.1, a.2.2.2.2.2.2.2.2.2.2.2.2.2.2.2.2.2.1, a.2.2.2.2.2.2.2.2.2.2.2.2.2.2.2.2.2.2.1, a.2.2.2.2.2.2.2.2.2.2.2.2.2.2.2.2.2.2.2.1, a.2.2.2.2.2.2.2.2.2.2.2.2.2.2.2.2.2.2.2.2.1, a.2.2.2.2.2.2.2.2.2.2.2.2.2.2.2.2.2.2.2.2.2.1, a.2.2.2.2.2.2.2.2.2.2.2.2.2.2.2.2.2.2.2.2.2.2.1, a.2.2.2.2.2.2.2.2.2.2.2.2.2.2.2.2.2.2.2.2.2.2.2⟩) (fun _ => rfl) Try.underlying67 (by kernel_rfl) (opensF_cons op5 (opensF_cons op5 (opensF_cons op5 (opensF_cons op5 (opensF_cons op5 (opensF_cons op5 (opensF_cons op5 (opensF_cons op5 (opensF_cons op5 (opensF_cons op5 (opensF_cons op5 (opensF_cons op5 (opensF_cons op5 (opensF_cons op5 (opensF_cons op5 (opensF_cons op5 (opensF_cons op5 (opensF_cons op5 (opensF_cons op5 (opensF_cons op5 (opensF_cons op5 (opensF_cons op5 (opensF_cons op5 (opensF_one op5))))))))))))))))))))))))
theorem op22 : Opens Try.prog 22 (Kd.slice 67 k67) (fun x : List (S67) => (x.length ≤ 9223372036854775807 ∧ ∀ x_ ∈ x, (Lit.int .u8 x_.f0).wf = true ∧ (Lit.int .u8 x_.f1).wf = true ∧ (Lit.int .u8 x_.f2).wf = true ∧ (Lit.int .u8 x_.f3).wf = true ∧ (Lit.int .u8 x_.f4).wf = true ∧ (Lit.int .u8 x_.f5).wf = true ∧ (Lit.int .u8 x_.f6).wf = true ∧ (Lit.int .u8 x_.f7).wf = true ∧ (Lit.int .u8 x_.f8).wf = true ∧ (Lit.int .u8 x_.f9).wf = true ∧ (Lit.int .u8 x_.f10).wf = true ∧ (Lit.int .u8 x_.f11).wf = true ∧ (Lit.int .u8 x_.f12).wf = true ∧ (Lit.int .u8 x_.f13).wf = true ∧ (Lit.int .u8 x_.f14).wf = true ∧ (Lit.int .u8 x_.f15).wf = true ∧ (Lit.int .u8 x_.f16).wf = true ∧ (Lit.int .u8 x_.f17).wf = true ∧ (Lit.int .u8 x_.f18).wf = true ∧ (Lit.int .u8 x_.f19).wf = true ∧ (Lit.int .u8 x_.f20).wf = true ∧ (Lit.int .u8 x_.f21).wf = true ∧ (Lit.int .u8 x_.f22).wf = true ∧ (Lit.int .u8 x_.f23).wf = true)) := opens_slice Try.underlying22 (by kernel_rfl) op67
theorem op55 : Opens Try.prog 55 (Kd.slice 5 (Kd.int .u8)) (fun x : List Int => (x.length ≤ 9223372036854775807 ∧ ∀ x_ ∈ x, (Lit.int .u8 x_).wf = true)) := opens_slice Try.underlying55 (by kernel_rfl) op5
theorem op23 : Opens Try.prog 23 (Kd.slice 55 (Kd.slice 5 (Kd.int .u8))) (fun x : List (List Int) => (x.length ≤ 9223372036854775807 ∧ ∀ x_ ∈ x, (x_.length ≤ 9223372036854775807 ∧ ∀ x__ ∈ x_, (Lit.int .u8 x__).wf = true))) := opens_slice Try.underlying23 (by kernel_rfl) op55
theorem op25 : Opens Try.prog 25 k25 (fun x : S25 => (x.f0.length ≤ 9223372036854775807 ∧ ∀ x_ ∈ x.f0, (Lit.int .u8 x_.f0).wf = true ∧ (Lit.int .u8 x_.f1).wf = true ∧ (Lit.int .u8 x_.f2).wf = true ∧ (Lit.int .u8 x_.f3).wf = true ∧ (Lit.int .u8 x_.f4).wf = true ∧ (Lit.int .u8 x_.f5).wf = true ∧ (Lit.int .u8 x_.f6).wf = true ∧ (Lit.int .u8 x_.f7).wf = true ∧ (Lit.int .u8 x_.f8).wf = true ∧ (Lit.int .u8 x_.f9).wf = true ∧ (Lit.int .u8 x_.f10).wf = true ∧ (Lit.int .u8 x_.f11).wf = true ∧ (Lit.int .u8 x_.f12).wf = true ∧ (Lit.int .u8 x_.f13).wf = true ∧ (Lit.int .u8 x_.f14).wf = true ∧ (Lit.int .u8 x_.f15).wf = true ∧ (Lit.int .u8 x_.f16).wf = true ∧ (Lit.int .u8 x_.f17).wf = true ∧ (Lit.int .u8 x_.f18).wf = true ∧ (Lit.int .u8 x_.f19).wf = true ∧ (Lit.int .u8 x_.f20).wf = true ∧ (Lit.int .u8 x_.f21).wf = true ∧ (Lit.int .u8 x_.f22).wf = true ∧ (Lit.int .u8 x_.f23).wf = true) ∧ (x.f1.length ≤ 9223372036854775807 ∧ ∀ x_ ∈ x.f1, (x_.length ≤ 9223372036854775807 ∧ ∀ x__ ∈ x_, (Lit.int .u8 x__).wf = true))) := opens_struct (fun x : S25 => (x.f0, x.f1)) (fun a => ⟨a.1, a.2⟩) (fun _ => rfl) Try.underlying25 (by kernel_rfl) (by kernel_rfl) (opensF_cons op22 (opensF_one op23))
theorem op60 : Opens Try.prog 60 k60 (fun x : S60 => (Lit.int .u8 x.f0).wf = true ∧ (Lit.int .u8 x.f1).wf = true ∧ (Lit.int .u8 x.f2).wf = true ∧ (Lit.int .u8 x.f3).wf = true ∧ (Lit.int .u8 x.f4).wf = true ∧ (Lit.int .u8 x.f5).wf = true) := opens_array (fun x : S60 => (x.f0, x.f1, x.f2, x.f3, x.f4, x.f5)) (fun a => ⟨a.1, a.2.1, a.2.2.1, a.2.2.2.1, a.2.2.2.2.1, a.2.2.2.2.2⟩) (fun _ => rfl) Try.underlying60 (by kernel_rfl) (opensF_cons op5 (opensF_cons op5 (opensF_cons op5 (opensF_cons op5 (opensF_cons op5 (opensF_one op5))))))
theorem op43 : Opens Try.prog 43 (Kd.slice 60 k60) (fun x : List (S60) => (x.length ≤ 9223372036854775807 ∧ ∀ x_ ∈ x, (Lit.int .u8 x_.f0).wf = true ∧ (Lit.int .u8 x_.f1).wf = true ∧ (Lit.int .u8 x_.f2).wf = true ∧ (Lit.int .u8 x_.f3).wf = true ∧ (Lit.int .u8 x_.f4).wf = true ∧ (Lit.int .u8 x_.f5).wf = true)) := opens_slice Try.underlying43 (by kernel_rfl) op60
end Go.Proofs.Ytgfknljhogfeaaa.G
end

section
namespace Go.Proofs.Ytgfknljhogfeaaa.G.Pure
open Go.RowKit Go.Proofs.Ytgfknljhogfeaaa.G Go.Proofs.YtgfknljhogfeaaaW.PrintWords Go.Proofs.YtgfknljhogfeaaaW.PrintLast Go.Proofs.YtgfknljhogfeaaaW.PrintMore
set_option linter.unusedVariables false
set_option linter.unusedSimpArgs false
theorem w64 {n : Int} (h0 : -9223372036854775808 ≤ n) (h1 : n ≤ 9223372036854775807) : wrap64 n = n := by
  unfold wrap64
  omega
theorem loop_inv {σ γ : Type} (L : Nat → σ → Option γ) (n : Nat) (I : Nat → σ → Prop) (R : γ → Prop)
    (hs : ∀ k i s, i < n → I i s → (∃ s', I (i + 1) s' ∧ L (k + 1) s = L k s') ∨ (∃ r, R r ∧ L (k + 1) s = some r))
    (he : ∀ k s, I n s → ∃ r, R r ∧ L (k + 1) s = some r) : ∀ k s, I 0 s → n < k → ∃ r, R r ∧ L k s = some r := by
  have go : ∀ d i k s, i + d = n → I i s → d < k → ∃ r, R r ∧ L k s = some r := by
    intro d
    induction d with
    | zero =>
      intro i k s hi hI hk
      obtain ⟨k, rfl⟩ : ∃ m, k = m + 1 := ⟨k - 1, by omega⟩
      obtain rfl : i = n := by omega
      exact he k s hI
    | succ d ih =>
      intro i k s hi hI hk
      obtain ⟨k, rfl⟩ : ∃ m, k = m + 1 := ⟨k - 1, by omega⟩
      rcases hs k i s (by omega) hI with ⟨s', hI', h⟩ | h
      · rw [h]
        exact ih (i + 1) k s' (by omega) hI' (by omega)
      · exact h
  intro k s hI hk
  exact go n 0 k s (by omega) hI hk
theorem take_set_succ {α : Type} {l : List α} {i : Nat} (h : i < l.length) (v : α) : (l.set i v).take (i + 1) = l.take i ++ [v] := by
  rw [List.take_succ_eq_append_getElem (by simpa using h)]
  simp [List.take_set_of_le]
theorem rd_nat {l : List Int} {i : Nat} (h : i < l.length) : rd l (i : Int) = l[i] := by
  simp [rd, List.getD_eq_getElem?_getD, List.getElem?_eq_getElem h]
end Go.Proofs.Ytgfknljhogfeaaa.G.Pure
end

section
namespace Go.Proofs.Ytgfknljhogfeaaa.G.Pure
open Go.RowKit Go.Proofs.Ytgfknljhogfeaaa.G Go.Proofs.YtgfknljhogfeaaaW.PrintWords Go.Proofs.YtgfknljhogfeaaaW.PrintLast Go.Proofs.YtgfknljhogfeaaaW.PrintMore
set_option linter.unusedVariables false
set_option linter.unusedSimpArgs false
theorem loop_inv2 {σ γ : Type} (L : Nat → σ → Option γ) (n K0 : Nat) (I : Nat → σ → Prop) (R : γ → Prop)
    (hs : ∀ k i s, i < n → K0 ≤ k → I i s → (∃ s', I (i + 1) s' ∧ L (k + 1) s = L k s') ∨ (∃ r, R r ∧ L (k + 1) s = some r))
    (he : ∀ k s, K0 ≤ k → I n s → ∃ r, R r ∧ L (k + 1) s = some r) : ∀ k s, I 0 s → n + K0 < k → ∃ r, R r ∧ L k s = some r := by
  have go : ∀ d i k s, i + d = n → I i s → d + K0 < k → ∃ r, R r ∧ L k s = some r := by
    intro d
    induction d with
    | zero =>
      intro i k s hi hI hk
      obtain ⟨k, rfl⟩ : ∃ m, k = m + 1 := ⟨k - 1, by omega⟩
      obtain rfl : i = n := by omega
      exact he k s (by omega) hI
    | succ d ih =>
      intro i k s hi hI hk
      obtain ⟨k, rfl⟩ : ∃ m, k = m + 1 := ⟨k - 1, by omega⟩
      rcases hs k i s (by omega) (by omega) hI with ⟨s', hI', h⟩ | h
      · rw [h]
        exact ih (i + 1) k s' (by omega) hI' (by omega)
      · exact h
  intro k s hI hk
  exact go n 0 k s (by omega) hI (by omega)
end Go.Proofs.Ytgfknljhogfeaaa.G.Pure
end

section
namespace Go.Proofs.Ytgfknljhogfeaaa.G.Pure
open Go.RowKit Go.Proofs.Ytgfknljhogfeaaa.G Go.Proofs.YtgfknljhogfeaaaW.PrintWords Go.Proofs.YtgfknljhogfeaaaW.PrintLast Go.Proofs.YtgfknljhogfeaaaW.PrintMore
set_option linter.unusedVariables false
set_option linter.unusedSimpArgs false
theorem eq_loop (L : Nat → Int → Option Bool) (a b : List Int) (hlen : a.length = b.length)
    (hs : ∀ k i, i < a.length → L (k + 1) (i : Int) = if rd a (i : Int) = rd b (i : Int) then L k ((i + 1 : Nat) : Int) else some false) (he : ∀ k, L (k + 1) (a.length : Int) = some true) : ∀ k, a.length < k → L k 0 = some (decide (a = b)) := by
  intro k hk
  obtain ⟨r, hr, h⟩ := loop_inv L a.length (fun i s => s = (i : Int) ∧ ∀ j (h : j < a.length), j < i → a[j] = b[j]) (fun r => r = decide (a = b))
    (fun k i s hi ⟨h1, h2⟩ => by
      subst h1
      rw [hs k i hi, rd_nat hi, rd_nat (by omega)]
      by_cases h : a[i] = b[i]
      · rw [if_pos h]
        refine .inl ⟨((i + 1 : Nat) : Int), ⟨rfl, fun j hj hji => ?_⟩, rfl⟩
        rcases Nat.lt_succ_iff_lt_or_eq.1 hji with e | e
        · exact h2 j hj e
        · subst e
          exact h
      · rw [if_neg h]
        refine .inr ⟨false, ?_, rfl⟩
        rw [decide_eq_false]
        rintro rfl
        exact h rfl)
    (fun k s ⟨h1, h2⟩ => by
      subst h1
      refine ⟨true, ?_, he k⟩
      rw [decide_eq_true]
      exact List.ext_getElem hlen fun j h1 h3 => h2 j h1 h1) k 0 ⟨rfl, fun j _ h => absurd h (Nat.not_lt_zero _)⟩ hk
  subst hr
  exact h
end Go.Proofs.Ytgfknljhogfeaaa.G.Pure
end

section
namespace Go.Proofs.Ytgfknljhogfeaaa.G.Pure
open Go.RowKit Go.Proofs.Ytgfknljhogfeaaa.G Go.Proofs.YtgfknljhogfeaaaW.PrintWords Go.Proofs.YtgfknljhogfeaaaW.PrintLast Go.Proofs.YtgfknljhogfeaaaW.PrintMore
set_option linter.unusedVariables false
set_option linter.unusedSimpArgs false
theorem eqWord_self (k : Nat) (a : List Int) (hl : a.length ≤ 1048576) (hk : a.length < k) : laws_eqWord.f k a a = some true := by
  unfold laws_eqWord.f
  rw [if_pos rfl]
  have e := eq_loop (fun k i => laws_eqWord.l0 k a a i) a a rfl (fun k i hi => by
    simp only [laws_eqWord.l0]
    rw [if_pos (by omega), if_pos (by omega), if_pos (by omega), w64 (by omega) (by omega)]
    rfl) (fun k => by
    simp only [laws_eqWord.l0]
    rw [if_neg (by omega)]) k hk
  rw [e]
  simp
end Go.Proofs.Ytgfknljhogfeaaa.G.Pure
end

section
namespace Go.Proofs.Ytgfknljhogfeaaa.G.Pure
open Go.RowKit Go.Proofs.Ytgfknljhogfeaaa.G Go.Proofs.YtgfknljhogfeaaaW.PrintWords Go.Proofs.YtgfknljhogfeaaaW.PrintLast Go.Proofs.YtgfknljhogfeaaaW.PrintMore
set_option linter.unusedVariables false
set_option linter.unusedSimpArgs false
theorem toWord_eq (k : Nat) (l : List Int) (hl : l.length ≤ 1048576) (hk : l.length < k) : laws_toWord.f k l = some l := by
  unfold laws_toWord.f
  rw [if_pos (by omega), if_pos (by omega)]
  obtain ⟨r, hr, h⟩ := loop_inv (fun k (s : List Int × Int) => laws_toWord.l0 k l s.1 s.2) l.length (fun i s => s.2 = (i : Int) ∧ s.1.length = l.length ∧ s.1.take i = l.take i) (fun r => r = l)
    (fun k i s hi ⟨h1, h2, h3⟩ => by
      obtain ⟨acc, x⟩ := s
      simp only at h1 h2 h3
      subst h1
      refine .inl ⟨(acc.set i l[i], ((i + 1 : Nat) : Int)), ⟨rfl, by simpa using h2, ?_⟩, ?_⟩
      · rw [take_set_succ (by omega), h3, List.take_succ_eq_append_getElem hi]
      · simp only [laws_toWord.l0]
        rw [if_pos (by omega), if_pos (by omega), if_pos (by omega), rd_nat hi, w64 (by omega) (by omega)]
        rfl)
    (fun k s ⟨h1, h2, h3⟩ => by
      obtain ⟨acc, x⟩ := s
      simp only at h1 h2 h3
      subst h1
      refine ⟨acc, ?_, ?_⟩
      · rw [List.take_of_length_le (by omega), List.take_of_length_le (by omega)] at h3
        exact h3
      · simp only [laws_toWord.l0]
        rw [if_neg (by omega)]) k (List.replicate l.length 0, 0) ⟨rfl, by simp, by simp⟩ hk
  subst hr
  simpa using h
end Go.Proofs.Ytgfknljhogfeaaa.G.Pure
end

section
namespace Go.Proofs.Ytgfknljhogfeaaa.G.Pure
open Go.RowKit Go.Proofs.Ytgfknljhogfeaaa.G Go.Proofs.YtgfknljhogfeaaaW.PrintWords Go.Proofs.YtgfknljhogfeaaaW.PrintLast Go.Proofs.YtgfknljhogfeaaaW.PrintMore
set_option linter.unusedVariables false
set_option linter.unusedSimpArgs false
abbrev Ws := List (List Int)
theorem rdX {l : Ws} {i : Nat} (h : i < l.length) : rd_L2 l (i : Int) = l[i] := by
  simp [rd_L2, List.getD_eq_getElem?_getD, List.getElem?_eq_getElem h]
theorem szWord_eq (l : List Int) (a : Int) (h0 : 0 ≤ a) (h1 : a ≤ 1048576) (hl : l.length ≤ 9223372036854775807) : laws_szWord.f l a = some (if a - l.length < 0 then -1 else a - l.length) := by
  unfold laws_szWord.f
  rw [w64 (by omega) (by omega)]
  split <;> rfl
theorem szWordS_ok {k : Nat} {l : Ws} {a0 : Int} (ha0 : 0 ≤ a0) (ha1 : a0 ≤ 1048576) (hl : l.length ≤ 9223372036854775807) (hi : ∀ x ∈ l, x.length ≤ 9223372036854775807) (hk : 1100000 < k) : ∃ n, laws_szWordS.f k l a0 = some n ∧ (n < 0 ∨ ¬ n < 0 ∧ n ≤ 1048576 ∧ l.length ≤ 1048576 ∧ ∀ x ∈ l, x.length ≤ 1048576) := by
  unfold laws_szWordS.f
  rw [w64 (by omega) (by omega)]
  by_cases h : a0 - (l.length : Int) < 0
  · rw [if_pos h]
    exact ⟨-1, rfl, .inl (by omega)⟩
  · rw [if_neg h]
    obtain ⟨r, hr, h'⟩ := loop_inv (fun k (s : Int × Int) => laws_szWordS.l0 k l s.1 s.2) l.length (fun i s => s.2 = (i : Int) ∧ 0 ≤ s.1 ∧ s.1 ≤ 1048576 ∧ ∀ j (h : j < l.length), j < i → l[j].length ≤ 1048576) (fun n => n < 0 ∨ ¬ n < 0 ∧ n ≤ 1048576 ∧ l.length ≤ 1048576 ∧ ∀ x ∈ l, x.length ≤ 1048576)
      (fun k i s hil ⟨h1, h2, h3, h4⟩ => by
        obtain ⟨a, x⟩ := s
        simp only at h1 h2 h3 h4
        subst h1
        have hx := hi _ (List.getElem_mem hil)
        simp only [laws_szWordS.l0]
        rw [if_pos (by omega), if_pos (by omega), rdX hil, szWord_eq _ _ h2 h3 hx]
        simp only [Option.bind_some]
        by_cases hneg : a - (l[i].length : Int) < 0
        · rw [if_pos hneg, if_pos (by omega)]
          exact .inr ⟨-1, .inl (by omega), rfl⟩
        · rw [if_neg hneg, if_neg hneg, w64 (by omega) (by omega)]
          refine .inl ⟨(a - (l[i].length : Int), ((i + 1 : Nat) : Int)), ⟨rfl, by simp only; omega, by simp only; omega, fun j hj hji => ?_⟩, rfl⟩
          rcases Nat.lt_succ_iff_lt_or_eq.1 hji with e | e
          · exact h4 j hj e
          · subst e
            omega)
      (fun k s ⟨h1, h2, h3, h4⟩ => by
        obtain ⟨a, x⟩ := s
        simp only at h1 h2 h3 h4
        subst h1
        refine ⟨a, .inr ⟨by omega, by omega, by omega, fun x hx => ?_⟩, ?_⟩
        · obtain ⟨j, hj, rfl⟩ := List.mem_iff_getElem.1 hx
          exact h4 j hj hj
        · simp only [laws_szWordS.l0]
          rw [if_neg (by omega)]) k (a0 - (l.length : Int), 0) ⟨rfl, by simp only; omega, by simp only; omega, fun j _ h => absurd h (Nat.not_lt_zero _)⟩ (by omega)
    exact ⟨r, h', hr⟩
theorem toWordS_eq {k : Nat} {l : Ws} (hl : l.length ≤ 1048576) (hi : ∀ x ∈ l, x.length ≤ 1048576) (hk : 2200000 < k) : laws_toWordS.f k l = some l := by
  unfold laws_toWordS.f
  rw [if_pos (by omega), if_pos (by omega)]
  obtain ⟨r, hr, h⟩ := loop_inv2 (fun k (s : Ws × Int) => laws_toWordS.l0 k l s.1 s.2) l.length 1048577 (fun i s => s.2 = (i : Int) ∧ s.1.length = l.length ∧ s.1.take i = l.take i) (fun r => r = l)
    (fun k i s hil hk ⟨h1, h2, h3⟩ => by
      obtain ⟨acc, x⟩ := s
      simp only at h1 h2 h3
      subst h1
      refine .inl ⟨(acc.set i l[i], ((i + 1 : Nat) : Int)), ⟨rfl, by simpa using h2, ?_⟩, ?_⟩
      · rw [take_set_succ (by omega), h3, List.take_succ_eq_append_getElem hil]
      · simp only [laws_toWordS.l0]
        rw [if_pos (by omega), if_pos (by omega), rdX hil, toWord_eq k _ (hi _ (List.getElem_mem hil)) (by have := hi _ (List.getElem_mem hil); omega)]
        simp only [Option.bind_some]
        rw [if_pos (by omega), w64 (by omega) (by omega)]
        rfl)
    (fun k s hk ⟨h1, h2, h3⟩ => by
      obtain ⟨acc, x⟩ := s
      simp only at h1 h2 h3
      subst h1
      refine ⟨acc, ?_, ?_⟩
      · rw [List.take_of_length_le (by omega), List.take_of_length_le (by omega)] at h3
        exact h3
      · simp only [laws_toWordS.l0]
        rw [if_neg (by omega)]) k (List.replicate l.length [], 0) ⟨rfl, by simp, by simp⟩ (by omega)
  subst hr
  simpa using h
theorem eqWordS_self {k : Nat} {l : Ws} (hl : l.length ≤ 1048576) (hi : ∀ x ∈ l, x.length ≤ 1048576) (hk : 2200000 < k) : laws_eqWordS.f k l l = some true := by
  unfold laws_eqWordS.f
  rw [if_pos rfl]
  obtain ⟨r, hr, h⟩ := loop_inv2 (fun k (s : Int) => laws_eqWordS.l0 k l l s) l.length 1048577 (fun i s => s = (i : Int)) (fun r => r = true)
    (fun k i s hil hk h1 => by
      subst h1
      refine .inl ⟨((i + 1 : Nat) : Int), rfl, ?_⟩
      simp only [laws_eqWordS.l0]
      rw [if_pos (by omega), if_pos (by omega), if_pos (by omega), rdX hil, eqWord_self k _ (hi _ (List.getElem_mem hil)) (by have := hi _ (List.getElem_mem hil); omega)]
      simp only [Option.bind_some, if_true]
      rw [w64 (by omega) (by omega)]
      rfl)
    (fun k s hk h1 => by
      subst h1
      refine ⟨true, rfl, ?_⟩
      simp only [laws_eqWordS.l0]
      rw [if_neg (by omega)]) k 0 rfl (by omega)
  subst hr
  exact h
theorem szCode_cases {k : Nat} (s : List S67) (ws : Ws) (hs : s.length ≤ 9223372036854775807) (hw : ws.length ≤ 9223372036854775807) (hi : ∀ x ∈ ws, x.length ≤ 9223372036854775807) (hk : 1100000 < k) : ∃ r, laws_szCode.f k s ws 1048576 = some r ∧ (r < 0 ∨ (0 ≤ r ∧ r ≤ 1048576 ∧ s.length ≤ 1048576 ∧ ws.length ≤ 1048576 ∧ ∀ x ∈ ws, x.length ≤ 1048576)) := by
  unfold laws_szCode.f laws_szFlagS.f
  rw [w64 (by omega) (by omega)]
  by_cases h : (1048576 : Int) - (s.length : Int) < 0
  · rw [if_pos h]
    exact ⟨-1, rfl, .inl (by omega)⟩
  · rw [if_neg h]
    simp only [Option.bind_some]
    rw [if_neg h]
    obtain ⟨n, hn, hc⟩ := szWordS_ok (k := k) (l := ws) (a0 := 1048576 - (s.length : Int)) (by omega) (by omega) hw hi hk
    rw [hn]
    simp only [Option.bind_some]
    rcases hc with hc | ⟨h1, h2, h3, h4⟩
    · rw [if_pos hc]
      exact ⟨-1, rfl, .inl (by omega)⟩
    · rw [if_neg h1]
      exact ⟨n, rfl, .inr ⟨by omega, h2, by omega, h3, h4⟩⟩
theorem toFlagS_eq (s : List S67) (h : s.length ≤ 1048576) : laws_toFlagS.f s = some (s.map laws_toFlagS.cv) := by
  unfold laws_toFlagS.f
  rw [if_pos (by omega)]
theorem toCode_eq {k : Nat} {s : List S67} {ws : Ws} (hs : s.length ≤ 1048576) (hw : ws.length ≤ 1048576) (hi : ∀ x ∈ ws, x.length ≤ 1048576) (hk : 2200000 < k) : laws_toCode.f k s ws = some (s.map laws_toFlagS.cv, ws) := by
  unfold laws_toCode.f
  rw [toFlagS_eq s hs, toWordS_eq hw hi hk]
  rfl
theorem eqCode_self {k : Nat} {fs : List S68} {ws : Ws} (hw : ws.length ≤ 1048576) (hi : ∀ x ∈ ws, x.length ≤ 1048576) (hk : 2200000 < k) : laws_eqCode.f k fs ws fs ws = some true := by
  unfold laws_eqCode.f laws_eqFlagS.f
  rw [decide_eq_true rfl, eqWordS_self hw hi hk]
  rfl
theorem eqSightS_self (a : List S61) : laws_eqSightS.f a a = some true := by
  unfold laws_eqSightS.f
  rw [decide_eq_true rfl]
end Go.Proofs.Ytgfknljhogfeaaa.G.Pure
end

section
namespace Go.Proofs.Ytgfknljhogfeaaa.G.Pure
open Go.RowKit Go.Proofs.Ytgfknljhogfeaaa.G Go.Proofs.YtgfknljhogfeaaaW.PrintWords Go.Proofs.YtgfknljhogfeaaaW.PrintLast Go.Proofs.YtgfknljhogfeaaaW.PrintMore
set_option linter.unusedVariables false
set_option linter.unusedSimpArgs false
def okS (ws : Ws) (x : List Int) : Bool := (x.all (fun c => decide (c < 37)) && (decide (1 ≤ x.length) && decide (x.length ≤ 8))) && decide (x.length = (ws.getD 0 []).length)
def okC (fs : List S68) (ws : Ws) : Bool := decide (1 ≤ fs.length) && decide (fs.length ≤ 40) && decide (ws.length ≤ 60) && ws.all (okS ws) && (fs.all spec_l05Ok.flag && ws.all (spec_l05Ok.word fs.length))
theorem specWord_eq (k : Nat) (x : List Int) (hl : x.length ≤ 1048576) (hk : x.length < k) : spec_l05Word.f k x = some (x.all (fun c => decide (c < 37)) && (decide (1 ≤ x.length) && decide (x.length ≤ 8))) := by
  unfold spec_l05Word.f
  obtain ⟨r, hr, h⟩ := loop_inv (fun k (s : Int) => spec_l05Word.l0 k x s) x.length (fun i s => s = (i : Int) ∧ ∀ j (h : j < x.length), j < i → x[j] < 37) (fun r => r = (x.all (fun c => decide (c < 37)) && (decide (1 ≤ x.length) && decide (x.length ≤ 8))))
    (fun k i s hi ⟨h1, h2⟩ => by
      subst h1
      simp only [spec_l05Word.l0]
      rw [if_pos (by omega), if_pos (by omega), rd_nat hi]
      by_cases hc : x[i] ≥ 37
      · rw [if_pos hc]
        refine .inr ⟨false, ?_, rfl⟩
        have : x.all (fun c => decide (c < 37)) = false := by
          rw [List.all_eq_false]
          exact ⟨x[i], List.getElem_mem hi, by simp; omega⟩
        rw [this]
        rfl
      · rw [if_neg hc, w64 (by omega) (by omega)]
        refine .inl ⟨((i + 1 : Nat) : Int), ⟨rfl, fun j hj hji => ?_⟩, rfl⟩
        rcases Nat.lt_succ_iff_lt_or_eq.1 hji with e | e
        · exact h2 j hj e
        · subst e
          omega)
    (fun k s ⟨h1, h2⟩ => by
      subst h1
      have hall : x.all (fun c => decide (c < 37)) = true := by
        rw [List.all_eq_true]
        intro c hc
        obtain ⟨j, hj, rfl⟩ := List.mem_iff_getElem.1 hc
        exact decide_eq_true (h2 j hj hj)
      refine ⟨_, rfl, ?_⟩
      simp only [spec_l05Word.l0, spec_l00In.f]
      rw [if_neg (by omega), hall, Bool.true_and]
      by_cases h1 : (x.length : Int) ≥ 1
      · rw [if_pos h1, decide_eq_true (show 1 ≤ x.length by omega), Bool.true_and]
        simp only [Option.bind_some, Option.some.injEq]
        exact decide_eq_decide.2 (by omega)
      · rw [if_neg h1, decide_eq_false (show ¬ 1 ≤ x.length by omega), Bool.false_and]
        rfl) k 0 ⟨rfl, fun j _ h => absurd h (Nat.not_lt_zero _)⟩ hk
  subst hr
  exact h
theorem specWords_eq {k : Nat} {ws : Ws} (hl : ws.length ≤ 1048576) (hi : ∀ x ∈ ws, x.length ≤ 1048576) (hk : 2200000 < k) : spec_l05Words.f k ws = some (ws.all (okS ws)) := by
  unfold spec_l05Words.f
  obtain ⟨r, hr, h⟩ := loop_inv2 (fun k (s : Int) => spec_l05Words.l0 k ws s) ws.length 1048577 (fun i s => s = (i : Int) ∧ ∀ j (h : j < ws.length), j < i → okS ws ws[j] = true) (fun r => r = ws.all (okS ws))
    (fun k i s hil hk ⟨h1, h2⟩ => by
      subst h1
      have hx := hi _ (List.getElem_mem hil)
      have hno : okS ws ws[i] = false → ws.all (okS ws) = false := fun h => by
        rw [List.all_eq_false]
        exact ⟨ws[i], List.getElem_mem hil, by rw [h]; decide⟩
      have h0 : rd_L2 ws 0 = ws.getD 0 [] := rfl
      simp only [spec_l05Words.l0]
      rw [if_pos (by omega), if_pos (by omega), rdX hil, specWord_eq k _ hx (by omega)]
      simp only [Option.bind_some]
      by_cases hc : (ws[i].all (fun c => decide (c < 37)) && (decide (1 ≤ ws[i].length) && decide (ws[i].length ≤ 8))) = true
      · rw [if_pos hc, if_pos (by omega)]
        by_cases he : (ws[i].length : Int) = ((rd_L2 ws 0).length : Int)
        · rw [if_pos he, w64 (by omega) (by omega)]
          refine .inl ⟨((i + 1 : Nat) : Int), ⟨rfl, fun j hj hji => ?_⟩, rfl⟩
          rcases Nat.lt_succ_iff_lt_or_eq.1 hji with e | e
          · exact h2 j hj e
          · subst e
            unfold okS
            rw [hc, Bool.true_and]
            rw [h0] at he
            exact decide_eq_true (by omega)
        · rw [if_neg he]
          refine .inr ⟨false, (hno ?_).symm, rfl⟩
          unfold okS
          rw [h0] at he
          rw [decide_eq_false (show ¬ ws[i].length = (ws.getD 0 []).length by omega), Bool.and_false]
      · rw [if_neg hc]
        refine .inr ⟨false, (hno ?_).symm, rfl⟩
        unfold okS
        rw [Bool.eq_false_iff.2 hc, Bool.false_and])
    (fun k s hk ⟨h1, h2⟩ => by
      subst h1
      refine ⟨true, ?_, ?_⟩
      · symm
        rw [List.all_eq_true]
        intro x hx
        obtain ⟨j, hj, rfl⟩ := List.mem_iff_getElem.1 hx
        exact h2 j hj hj
      · simp only [spec_l05Words.l0]
        rw [if_neg (by omega)]) k 0 ⟨rfl, fun j _ h => absurd h (Nat.not_lt_zero _)⟩ (by omega)
  subst hr
  exact h
theorem specOk_eq {k : Nat} {fs : List S68} {ws : Ws} (hl : ws.length ≤ 1048576) (hi : ∀ x ∈ ws, x.length ≤ 1048576) (hk : 2200000 < k) : spec_l05Ok.f k fs ws = some (okC fs ws) := by
  unfold spec_l05Ok.f spec_l00In.f okC
  by_cases h1 : (fs.length : Int) ≥ 1
  · rw [if_pos h1, decide_eq_true (show 1 ≤ fs.length by omega), Bool.true_and]
    simp only [Option.bind_some]
    by_cases h2 : fs.length ≤ 40
    · rw [decide_eq_true h2, Bool.true_and, if_pos (decide_eq_true (by omega))]
      by_cases h3 : (ws.length : Int) > 60
      · rw [if_pos h3, decide_eq_false (show ¬ ws.length ≤ 60 by omega), Bool.false_and, Bool.false_and]
      · rw [if_neg h3, decide_eq_true (show ws.length ≤ 60 by omega), Bool.true_and, specWords_eq hl hi hk]
        simp only [Option.bind_some]
        cases ws.all (okS ws)
        · rfl
        · rw [if_pos rfl, Bool.true_and]
    · rw [decide_eq_false h2, if_neg (by simp; omega)]
      rfl
  · rw [if_neg h1, decide_eq_false (show ¬ 1 ≤ fs.length by omega)]
    rfl
def okI (n : Int) (ws : Ws) (x : List Int) : Bool := ((decide (1 ≤ x.length) && decide (x.length ≤ 8)) && x.all (fun c => !decide (wrap64 c ≥ mn n 37))) && decide (x.length = (ws.getD 0 []).length)
theorem isWord_eq (x : List Int) (n : Int) : impl_Word_isWord.f x n = some ((decide (1 ≤ x.length) && decide (x.length ≤ 8)) && x.all (fun c => !decide (wrap64 c ≥ mn n 37))) := by
  have e : slices_ContainsFunc_Word_uint8__impl_Word_isWord_1.f x n = some (x.any fun c => decide (wrap64 c ≥ mn n 37)) := anyO_eq fun c _ => rfl
  unfold impl_Word_isWord.f impl_size_uint8.f impl_within.f
  simp only [Option.bind_some]
  by_cases h1 : (1 : Int) ≤ (x.length : Int)
  · rw [if_pos h1, decide_eq_true (show 1 ≤ x.length by omega), Bool.true_and]
    simp only [Option.bind_some]
    by_cases h2 : x.length ≤ 8
    · rw [if_pos (decide_eq_true (by omega)), e, decide_eq_true h2, Bool.true_and]
      simp only [Option.bind_some, Option.some.injEq]
      rw [← List.not_any_eq_all_not]
    · rw [if_neg (by simp; omega), decide_eq_false h2, Bool.false_and]
  · rw [if_neg h1, decide_eq_false (show ¬ 1 ≤ x.length by omega)]
    rfl
theorem areWords_eq (ws : Ws) (n : Int) : impl_areWords.f ws n = some (ws.all (okI n ws)) := by
  have e : slices_ContainsFunc_Word_Word__impl_areWords_1.f ws n ws = some (ws.any fun x => !okI n ws x) := anyO_eq fun x hx => by
    have hp : 0 < (ws.length : Int) := by
      have := List.length_pos_of_mem hx
      omega
    unfold impl_areWords_1.f
    rw [isWord_eq]
    simp only [Option.bind_some]
    unfold okI
    cases ((decide (1 ≤ x.length) && decide (x.length ≤ 8)) && x.all (fun c => !decide (wrap64 c ≥ mn n 37)))
    · rfl
    · rw [if_pos rfl, if_pos hp, Bool.true_and]
      have h0 : rd_L2 ws 0 = ws.getD 0 [] := rfl
      rw [h0]
      generalize (ws.getD 0 []).length = m
      congr 1
      by_cases he : x.length = m
      · rw [he]; simp
      · rw [decide_eq_false he, bne_iff_ne.2 (show ¬ (x.length : Int) = (m : Int) by omega)]; rfl
  unfold impl_areWords.f
  rw [e]
  simp only [Option.bind_some, Option.some.injEq]
  rw [List.not_any_eq_all_not]
  simp
theorem implOk_eq {fs : List S68} {ws : Ws} (hw : ∀ x ∈ ws, ∀ c ∈ x, 0 ≤ c ∧ c ≤ 255) : impl_ValidCode.f fs ws = some (okC fs ws) := by
  have e1 : slices_ContainsFunc_Flag_Flag__impl_setCode_1.f fs = some (fs.any fun x => !spec_l05Ok.flag x) := anyO_eq fun x _ => by
    show some ((arrL68 x).any fun c => decide (c ≥ 6)) = _
    unfold spec_l05Ok.flag
    rw [List.not_all_eq_any_not]
    congr 2
    funext c
    by_cases h : c ≤ 5
    · rw [decide_eq_true h, decide_eq_false (by omega)]; rfl
    · rw [decide_eq_false h, decide_eq_true (by omega)]; rfl
  have e2 : ∀ n : Nat, ws.all (okI (n : Int) ws) = (ws.all (okS ws) && ws.all (spec_l05Ok.word n)) := fun n => by
    rw [Bool.eq_iff_iff]
    simp only [Bool.and_eq_true, List.all_eq_true, okI, okS, spec_l05Ok.word, decide_eq_true_eq, Bool.not_eq_true', decide_eq_false_iff_not]
    constructor
    · intro h
      refine ⟨fun x hx => ⟨⟨fun c hc => ?_, (h x hx).1.1⟩, (h x hx).2⟩, fun x hx c hc => ?_⟩
      · have h1 := (h x hx).1.2 c hc
        have h2 := hw x hx c hc
        rw [w64 (by omega) (by omega)] at h1
        unfold mn at h1
        split at h1 <;> omega
      · have h1 := (h x hx).1.2 c hc
        have h2 := hw x hx c hc
        rw [w64 (by omega) (by omega)] at h1 ⊢
        unfold mn at h1
        split at h1 <;> omega
    · rintro ⟨ha, hb⟩ x hx
      refine ⟨⟨(ha x hx).1.2, fun c hc => ?_⟩, (ha x hx).2⟩
      have h1 := (ha x hx).1.1 c hc
      have h2 := hw x hx c hc
      have h3 := hb x hx c hc
      rw [w64 (by omega) (by omega)] at h3 ⊢
      unfold mn
      split <;> omega
  unfold impl_ValidCode.f impl_setCode.f impl_within.f impl_unless.f impl_size_Flag.f okC
  rw [e1]
  simp only [Option.bind_some]
  rw [areWords_eq]
  simp only [Option.bind_some]
  rw [e2]
  have hf : (fs.any fun x => !spec_l05Ok.flag x) = !fs.all spec_l05Ok.flag := by
    rw [List.not_all_eq_any_not]
  rw [hf]
  by_cases h1 : (fs.length : Int) > 0
  · rw [if_pos h1, decide_eq_true (show 1 ≤ fs.length by omega), Bool.true_and]
    cases hfl : fs.all spec_l05Ok.flag
    · simp
    · by_cases h2 : fs.length ≤ 40
      · have h2' : ¬ (fs.length : Int) > 40 := by omega
        rw [decide_eq_true h2, Bool.true_and]
        by_cases h3 : ws.length ≤ 60
        · have h3' : (ws.length : Int) ≤ 60 := by omega
          simp [h2', h3', h3]
        · have h3' : ¬ (ws.length : Int) ≤ 60 := by omega
          simp [h2', h3', h3]
      · have h2' : (fs.length : Int) > 40 := by omega
        rw [decide_eq_false h2]
        simp [h2']
  · rw [if_neg h1, decide_eq_false (show ¬ 1 ≤ fs.length by omega)]
    rfl
end Go.Proofs.Ytgfknljhogfeaaa.G.Pure
end

section
namespace Go.Proofs.Ytgfknljhogfeaaa.G.Pure
open Go.RowKit Go.Proofs.Ytgfknljhogfeaaa.G Go.Proofs.YtgfknljhogfeaaaW.PrintWords Go.Proofs.YtgfknljhogfeaaaW.PrintLast Go.Proofs.YtgfknljhogfeaaaW.PrintMore
set_option linter.unusedVariables false
set_option linter.unusedSimpArgs false
abbrev Fl := S68
abbrev Sg := S61
def seeC (fs : List Fl) (x : List Int) : List Sg := x.map (spec_l05Sights.see fs)
structure ValidC (fs : List Fl) (ws : Ws) : Prop where
  nf : fs.length ≤ 40
  nw : ws.length ≤ 60
  len : ∀ x ∈ ws, 1 ≤ x.length ∧ x.length ≤ 8 ∧ x.length = (ws.getD 0 []).length
  mem : ∀ x ∈ ws, ∀ c ∈ x, 0 ≤ c ∧ c < (fs.length : Int)
  flag : ∀ f ∈ fs, ∀ c ∈ arrL68 f, 0 ≤ c ∧ c < 6
theorem validC {fs : List Fl} {ws : Ws} (h : okC fs ws = true) (hw : ∀ x ∈ ws, ∀ c ∈ x, 0 ≤ c ∧ c ≤ 255) (hf : ∀ f ∈ fs, ∀ c ∈ arrL68 f, 0 ≤ c) : ValidC fs ws := by
  unfold okC at h
  simp only [Bool.and_eq_true, List.all_eq_true, okS, spec_l05Ok.flag, spec_l05Ok.word, decide_eq_true_eq] at h
  obtain ⟨⟨⟨⟨h1, h2⟩, h3⟩, h4⟩, h5, h6⟩ := h
  refine ⟨h2, h3, fun x hx => ⟨(h4 x hx).1.2.1, (h4 x hx).1.2.2, (h4 x hx).2⟩, fun x hx c hc => ?_, fun f hf' c hc => ⟨hf f hf' c hc, ?_⟩⟩
  · have h7 := hw x hx c hc
    have h8 := h6 x hx c hc
    rw [w64 (by omega) (by omega)] at h8
    exact ⟨h7.1, h8⟩
  · have := h5 f hf' c hc
    omega
theorem rdF_mem {fs : List Fl} {c : Int} (h0 : 0 ≤ c) (h1 : c < (fs.length : Int)) : rd_T68 fs c ∈ fs := by
  obtain ⟨j, rfl⟩ : ∃ j : Nat, c = (j : Int) := ⟨c.toNat, by omega⟩
  have hj : j < fs.length := by omega
  unfold rd_T68
  rw [Int.toNat_natCast, List.getD_eq_getElem?_getD, List.getElem?_eq_getElem hj]
  exact List.getElem_mem hj
theorem flag_all {fs : List Fl} {ws : Ws} (hv : ValidC fs ws) {c : Int} (h0 : 0 ≤ c) (h1 : c < (fs.length : Int)) : (arrL68 (rd_T68 fs c)).all (fun d => decide (0 ≤ d) && decide (d < 6)) = true := by
  rw [List.all_eq_true]
  intro d hd
  have := hv.flag _ (rdF_mem h0 h1) d hd
  rw [decide_eq_true this.1, decide_eq_true this.2]
  rfl
theorem blur_at (x : Fl) (h : (arrL68 x).all (fun d => decide (0 ≤ d) && decide (d < 6)) = true) : impl_Flag_blur.f x.f0 x.f1 x.f2 x.f3 x.f4 x.f5 x.f6 x.f7 x.f8 x.f9 x.f10 x.f11 x.f12 x.f13 x.f14 x.f15 x.f16 x.f17 x.f18 x.f19 x.f20 x.f21 x.f22 x.f23 = some (oneB (arrL68 x) 0, oneB (arrL68 x) 1, oneB (arrL68 x) 2, oneB (arrL68 x) 3, oneB (arrL68 x) 4, oneB (arrL68 x) 5) := by
  show (if (arrL68 x).all (fun d => decide (0 ≤ d) && decide (d < 6)) = true then _ else none) = _
  rw [if_pos h]
  rfl
theorem implSights_eq {k : Nat} {fs : List Fl} {ws : Ws} (hv : ValidC fs ws) (ws' : Ws) {x : List Int} (hx : x ∈ ws) (hk : 100 < k) : impl_Code_sights.f k fs ws' x = some (seeC fs x) := by
  have hl := hv.len x hx
  have hm := hv.mem x hx
  unfold impl_Code_sights.f
  obtain ⟨r, hr, h⟩ := loop_inv (fun k (s : List Sg × Int) => impl_Code_sights.l0 k s.1 x (x.length : Int) s.2 fs ws') x.length (fun i s => s.2 = (i : Int) ∧ s.1 = (x.take i).map (spec_l05Sights.see fs)) (fun r => r = seeC fs x)
    (fun k i s hi ⟨h1, h2⟩ => by
      obtain ⟨acc, j⟩ := s
      simp only at h1 h2
      subst h1
      have hc := hm _ (List.getElem_mem hi)
      refine .inl ⟨(acc ++ [spec_l05Sights.see fs x[i]], ((i + 1 : Nat) : Int)), ⟨rfl, ?_⟩, ?_⟩
      · simp only
        rw [List.take_succ_eq_append_getElem hi, List.map_append, h2]
        rfl
      · simp only [impl_Code_sights.l0]
        rw [if_pos (by omega), if_pos (by omega), if_pos (by omega), rd_nat hi, if_pos hc.1, if_pos hc.2, blur_at _ (flag_all hv hc.1 hc.2)]
        simp only [Option.bind_some]
        have hal : acc.length ≤ 8 := by rw [h2, List.length_map, List.length_take]; omega
        rw [if_pos (by omega), w64 (by omega) (by omega)]
        rfl)
    (fun k s ⟨h1, h2⟩ => by
      obtain ⟨acc, j⟩ := s
      simp only at h1 h2
      subst h1
      refine ⟨acc, ?_, ?_⟩
      · rw [h2, List.take_length]
        rfl
      · simp only [impl_Code_sights.l0]
        rw [if_neg (by omega)]) k ([], 0) ⟨rfl, by simp⟩ (by omega)
  subst hr
  exact h
theorem specSights_eq {fs : List Fl} {ws : Ws} (hv : ValidC fs ws) {i : Nat} (hi : i < ws.length) : spec_l05Sights.f fs ws (i : Int) = some (seeC fs ws[i]) := by
  have hx := List.getElem_mem hi
  have hl := hv.len _ hx
  have hm := hv.mem _ hx
  unfold spec_l05Sights.f
  have ha : (ws[i]).all (spec_l05Sights.fits fs) = true := by
    rw [List.all_eq_true]
    intro c hc
    have h := hm c hc
    unfold spec_l05Sights.fits
    rw [decide_eq_true h.1, decide_eq_true h.2, flag_all hv h.1 h.2]
    rfl
  rw [rdX hi, if_pos ⟨by omega, by omega, by omega, ha⟩]
  rfl
theorem u8b {n : Int} (h : (Lit.int .u8 n).wf = true) : 0 ≤ n ∧ n ≤ 255 := by
  simp [Lit.wf, IntKind.min, IntKind.max, IntKind.signed, IntKind.bits] at h
  omega
theorem wordsW {ws : Ws} (h : ∀ x ∈ ws, (x.length ≤ 9223372036854775807 ∧ ∀ x_ ∈ x, (Lit.int .u8 x_).wf = true)) : ∀ x ∈ ws, ∀ c ∈ x, 0 ≤ c ∧ c ≤ 255 := fun x hx c hc => u8b ((h x hx).2 c hc)
theorem flagsW {s : List S67} (h : ∀ x ∈ s, (Lit.int .u8 x.f0).wf = true ∧ (Lit.int .u8 x.f1).wf = true ∧ (Lit.int .u8 x.f2).wf = true ∧ (Lit.int .u8 x.f3).wf = true ∧ (Lit.int .u8 x.f4).wf = true ∧ (Lit.int .u8 x.f5).wf = true ∧ (Lit.int .u8 x.f6).wf = true ∧ (Lit.int .u8 x.f7).wf = true ∧ (Lit.int .u8 x.f8).wf = true ∧ (Lit.int .u8 x.f9).wf = true ∧ (Lit.int .u8 x.f10).wf = true ∧ (Lit.int .u8 x.f11).wf = true ∧ (Lit.int .u8 x.f12).wf = true ∧ (Lit.int .u8 x.f13).wf = true ∧ (Lit.int .u8 x.f14).wf = true ∧ (Lit.int .u8 x.f15).wf = true ∧ (Lit.int .u8 x.f16).wf = true ∧ (Lit.int .u8 x.f17).wf = true ∧ (Lit.int .u8 x.f18).wf = true ∧ (Lit.int .u8 x.f19).wf = true ∧ (Lit.int .u8 x.f20).wf = true ∧ (Lit.int .u8 x.f21).wf = true ∧ (Lit.int .u8 x.f22).wf = true ∧ (Lit.int .u8 x.f23).wf = true) : ∀ f ∈ s.map laws_toFlagS.cv, ∀ c ∈ arrL68 f, 0 ≤ c := by
  intro f hf c hc
  obtain ⟨x, hx, rfl⟩ := List.mem_map.1 hf
  rw [show arrL68 (laws_toFlagS.cv x) = arrL67 x from rfl] at hc
  have hq := h x hx
  obtain ⟨q0, q1, q2, q3, q4, q5, q6, q7, q8, q9, q10, q11, q12, q13, q14, q15, q16, q17, q18, q19, q20, q21, q22, q23⟩ := hq
  simp only [arrL67, List.mem_cons, List.not_mem_nil, or_false] at hc
  rcases hc with rfl | rfl | rfl | rfl | rfl | rfl | rfl | rfl | rfl | rfl | rfl | rfl | rfl | rfl | rfl | rfl | rfl | rfl | rfl | rfl | rfl | rfl | rfl | rfl <;> exact (u8b (by assumption)).1
end Go.Proofs.Ytgfknljhogfeaaa.G.Pure
end

section
namespace Go.Proofs.Ytgfknljhogfeaaa.G.Pure
open Go.RowKit Go.Proofs.Ytgfknljhogfeaaa.G Go.Proofs.YtgfknljhogfeaaaW.PrintWords Go.Proofs.YtgfknljhogfeaaaW.PrintLast Go.Proofs.YtgfknljhogfeaaaW.PrintMore
set_option linter.unusedVariables false
set_option linter.unusedSimpArgs false
theorem farTo_eq (a b : List Sg) : ∀ i, impl_sightsApart.to a b i = spec_l05Far.to a b i
  | 0 => rfl
  | i + 1 => by
    show impl_sightsApart.to a b i + _ = spec_l05Far.to a b i + _
    rw [farTo_eq a b i]
def dstC (fs : List Fl) (seen : List Sg) (x : List Int) : Nat := spec_l05Far.to (seeC fs x) seen (seeC fs x).length
theorem specFar_eq {fs : List Fl} {seen : List Sg} {x : List Int} (h : x.length = seen.length) (h8 : x.length ≤ 8) : spec_l05Far.f (seeC fs x) seen = some ((dstC fs seen x : Nat) : Int) := by
  have hl : (seeC fs x).length = x.length := by unfold seeC; rw [List.length_map]
  unfold spec_l05Far.f
  rw [if_pos ⟨by omega, by omega⟩]
  rfl
theorem implFar_eq {fs : List Fl} {seen : List Sg} {x : List Int} (h : x.length = seen.length) (h8 : x.length ≤ 8) : impl_sightsApart.f (seeC fs x) seen = some ((dstC fs seen x : Nat) : Int) := by
  have hl : (seeC fs x).length = x.length := by unfold seeC; rw [List.length_map]
  unfold impl_sightsApart.f
  rw [if_pos ⟨by omega, by omega⟩, farTo_eq]
  rfl
theorem farTo_le (a b : List Sg) : ∀ i, spec_l05Far.to a b i ≤ 6 * i
  | 0 => Nat.le_refl _
  | i + 1 => by
    have h1 := farTo_le a b i
    have h2 := difN_le (arrL61 (rd_T61 a (i : Int))) (arrL61 (rd_T61 b (i : Int))) 6
    show spec_l05Far.to a b i + _ ≤ _
    omega
theorem dstC_le {fs : List Fl} {seen : List Sg} {x : List Int} (h8 : x.length ≤ 8) : dstC fs seen x ≤ 48 := by
  have hl : (seeC fs x).length = x.length := by unfold seeC; rw [List.length_map]
  have := farTo_le (seeC fs x) seen (seeC fs x).length
  unfold dstC
  omega
def distN (fs : List Fl) (ws : Ws) (seen : List Sg) (i : Nat) : Nat := dstC fs seen (ws.getD i [])
def candN (D : Nat → Nat) (w : Int) (n : Nat) : List Int := ((List.range n).filter (fun i => decide ((D i : Int) ≤ w))).map (fun i : Nat => (i : Int))
theorem candN_succ (D : Nat → Nat) (w : Int) (n : Nat) : candN D w (n + 1) = if (D n : Int) ≤ w then candN D w n ++ [(n : Int)] else candN D w n := by
  unfold candN
  rw [List.range_succ, List.filter_append, List.map_append]
  by_cases h : (D n : Int) ≤ w
  · rw [if_pos h]
    simp [h]
  · rw [if_neg h]
    simp [h]
theorem candN_len (D : Nat → Nat) (w : Int) (n : Nat) : (candN D w n).length ≤ n := by
  unfold candN
  rw [List.length_map]
  have := List.length_filter_le (fun i => decide ((D i : Int) ≤ w)) (List.range n)
  rw [List.length_range] at this
  exact this
theorem implCand_eq {k : Nat} {fs : List Fl} {ws : Ws} {seen : List Sg} (hv : ValidC fs ws) (hs : ∀ x ∈ ws, x.length = seen.length) (w : Int) (hk : 200 < k) : impl_Code_candidates.f k fs ws seen w = some (candN (distN fs ws seen) w ws.length) := by
  have hn := hv.nw
  unfold impl_Code_candidates.f
  obtain ⟨r, hr, h⟩ := loop_inv2 (fun k (s : List Int × Int) => impl_Code_candidates.l0 k seen w s.1 ws (ws.length : Int) s.2 fs ws) ws.length 101 (fun i s => s.2 = (i : Int) ∧ s.1 = candN (distN fs ws seen) w i) (fun r => r = candN (distN fs ws seen) w ws.length)
    (fun k i s hi hk ⟨h1, h2⟩ => by
      obtain ⟨acc, j⟩ := s
      simp only at h1 h2
      subst h1
      have hx := List.getElem_mem hi
      have hd : dstC fs seen ws[i] = distN fs ws seen i := by
        unfold distN
        rw [List.getD_eq_getElem?_getD, List.getElem?_eq_getElem hi]
        rfl
      refine .inl ⟨(candN (distN fs ws seen) w (i + 1), ((i + 1 : Nat) : Int)), ⟨rfl, rfl⟩, ?_⟩
      simp only [impl_Code_candidates.l0]
      rw [if_pos (by omega), if_pos (by omega), if_pos (by omega), rdX hi, implSights_eq hv ws hx (by omega)]
      simp only [Option.bind_some]
      rw [implFar_eq (hs _ hx) (hv.len _ hx).2.1, hd, candN_succ]
      simp only [Option.bind_some]
      have hal := candN_len (distN fs ws seen) w i
      rw [w64 (by omega) (by omega)]
      by_cases hc : ((distN fs ws seen i : Nat) : Int) ≤ w
      · rw [if_pos hc, if_pos hc, h2, if_pos (by omega)]
        rfl
      · rw [if_neg hc, if_neg hc, h2]
        rfl)
    (fun k s hk ⟨h1, h2⟩ => by
      obtain ⟨acc, j⟩ := s
      simp only at h1 h2
      subst h1
      refine ⟨acc, h2, ?_⟩
      simp only [impl_Code_candidates.l0]
      rw [if_neg (by omega)]) k ([], 0) ⟨rfl, rfl⟩ (by omega)
  subst hr
  exact h
def seenOk (seen : List Sg) : Bool := seen.all spec_l05Seen.ok
theorem areSights_eq (seen : List Sg) : impl_areSights.f seen = some (seenOk seen) := by
  have e1 : slices_ContainsFunc_Sight_Sight__impl_areSights_1.f seen = some (seen.any fun x => !spec_l05Seen.ok x) := anyO_eq fun x _ => by
    show some ((arrL61 x).any fun c => decide (c ≥ 6)) = _
    unfold spec_l05Seen.ok
    rw [List.not_all_eq_any_not]
    congr 2
    funext c
    by_cases h : c ≤ 5
    · rw [decide_eq_true h, decide_eq_false (by omega)]; rfl
    · rw [decide_eq_false h, decide_eq_true (by omega)]; rfl
  unfold impl_areSights.f
  rw [e1]
  simp only [Option.bind_some, Option.some.injEq]
  rw [List.not_any_eq_all_not]
  unfold seenOk
  simp
def fitC (ws : Ws) (seen : List Sg) : Bool := decide (ws.length = 0) || decide (seen.length = (ws.getD 0 []).length)
theorem fitC_all {fs : List Fl} {ws : Ws} {seen : List Sg} (hv : ValidC fs ws) (h : fitC ws seen = true) : ∀ x ∈ ws, x.length = seen.length := fun x hx => by
  unfold fitC at h
  simp only [Bool.or_eq_true, decide_eq_true_eq] at h
  rcases h with h | h
  · have := List.length_pos_of_mem hx
    omega
  · rw [(hv.len x hx).2.2, h]
theorem isSeen_eq (fs : List Fl) (ws : Ws) (seen : List Sg) : impl_Code_isSeen.f fs ws seen = some (fitC ws seen) := by
  unfold impl_Code_isSeen.f fitC
  by_cases h : (ws.length : Int) = 0
  · rw [if_pos h, decide_eq_true (show ws.length = 0 by omega)]
    rfl
  · rw [if_neg h, if_pos (by omega), decide_eq_false (show ¬ ws.length = 0 by omega), Bool.false_or]
    have h0 : rd_L2 ws 0 = ws.getD 0 [] := rfl
    rw [h0]
    generalize (ws.getD 0 []).length = m
    congr 1
    by_cases he : seen.length = m
    · rw [he]; simp
    · rw [decide_eq_false he, beq_eq_false_iff_ne.2 (show ¬ (seen.length : Int) = (m : Int) by omega)]
theorem toSightS_eq (s : List S60) (h : s.length ≤ 1048576) : laws_toSightS.f s = some (s.map laws_toSightS.cv) := by
  unfold laws_toSightS.f
  rw [if_pos (by omega)]
theorem szSightS_eq (s : List S60) (a : Int) (h0 : 0 ≤ a) (h1 : a ≤ 1048576) (hs : s.length ≤ 9223372036854775807) : laws_szSightS.f s a = some (if a - (s.length : Int) < 0 then -1 else a - (s.length : Int)) := by
  unfold laws_szSightS.f
  rw [w64 (by omega) (by omega)]
  split <;> rfl
end Go.Proofs.Ytgfknljhogfeaaa.G.Pure
end

section
namespace Go.Proofs.Ytgfknljhogfeaaa.G.Pure
open Go.RowKit Go.Proofs.Ytgfknljhogfeaaa.G Go.Proofs.YtgfknljhogfeaaaW.PrintWords Go.Proofs.YtgfknljhogfeaaaW.PrintLast Go.Proofs.YtgfknljhogfeaaaW.PrintMore
set_option linter.unusedVariables false
set_option linter.unusedSimpArgs false
def cntN (D : Nat → Nat) (m n : Nat) : Nat := ((List.range n).filter (fun i => decide (D i = m))).length
theorem cntN_succ (D : Nat → Nat) (m n : Nat) : cntN D m (n + 1) = cntN D m n + if D n = m then 1 else 0 := by
  unfold cntN
  rw [List.range_succ, List.filter_append, List.length_append]
  by_cases h : D n = m
  · simp [h]
  · simp [h]
theorem cntN_none {D : Nat → Nat} {m n : Nat} (h : ∀ j, j < n → D j ≠ m) : cntN D m n = 0 := by
  unfold cntN
  rw [List.length_eq_zero_iff, List.filter_eq_nil_iff]
  intro j hj
  have := h j (List.mem_range.1 hj)
  simpa using this
theorem cntN_le (D : Nat → Nat) (m n : Nat) : cntN D m n ≤ n := by
  have := List.length_filter_le (fun i => decide (D i = m)) (List.range n)
  rw [List.length_range] at this
  exact this
theorem candN_none {D : Nat → Nat} {w : Int} {n : Nat} (h : ∀ j, j < n → w < (D j : Int)) : candN D w n = [] := by
  unfold candN
  rw [List.map_eq_nil_iff, List.filter_eq_nil_iff]
  intro j hj
  have := h j (List.mem_range.1 hj)
  simp
  omega
theorem candN_min {D : Nat → Nat} {m n : Nat} (h : ∀ j, j < n → m ≤ D j) : (candN D (m : Int) n).length = cntN D m n := by
  unfold candN cntN
  rw [List.length_map]
  congr 1
  refine List.filter_congr fun j hj => decide_eq_decide.2 ?_
  have := h j (List.mem_range.1 hj)
  omega
theorem candN_mem {D : Nat → Nat} {m n b : Nat} (hb : b < n) (hm : D b = m) : (b : Int) ∈ candN D (m : Int) n := by
  unfold candN
  refine List.mem_map.2 ⟨b, List.mem_filter.2 ⟨List.mem_range.2 hb, ?_⟩, rfl⟩
  simp [hm]
theorem specRead_l0 {k : Nat} {fs : List Fl} {ws : Ws} {seen : List Sg} (hv : ValidC fs ws) (hs : ∀ x ∈ ws, x.length = seen.length) (hp : 0 < ws.length) (hk : 100 < k) : ∃ r, (∃ b m : Nat, b < ws.length ∧ distN fs ws seen b = m ∧ (∀ j, j < ws.length → m ≤ distN fs ws seen j) ∧ r = if cntN (distN fs ws seen) m ws.length > 1 then ((0 : Int), (0 : Int), (8 : Int)) else ((b : Int), (m : Int), 0)) ∧ spec_ReadSights.l0 (2 * k) seen 0 (-1) 0 0 fs ws = some r := by
  have hn := hv.nw
  exact loop_inv (fun k (s : Int × Int × Int × Int) => spec_ReadSights.l0 (2 * k) seen s.1 s.2.1 s.2.2.1 s.2.2.2 fs ws) ws.length
    (fun i s => s.2.2.2 = (i : Int) ∧ ((i = 0 ∧ s.2.1 = -1 ∧ s.2.2.1 = 0) ∨ ∃ b m : Nat, b < i ∧ distN fs ws seen b = m ∧ (∀ j, j < i → m ≤ distN fs ws seen j) ∧ s.1 = (b : Int) ∧ s.2.1 = (m : Int) ∧ s.2.2.1 = (cntN (distN fs ws seen) m i : Int)))
    (fun r => ∃ b m : Nat, b < ws.length ∧ distN fs ws seen b = m ∧ (∀ j, j < ws.length → m ≤ distN fs ws seen j) ∧ r = if cntN (distN fs ws seen) m ws.length > 1 then ((0 : Int), (0 : Int), (8 : Int)) else ((b : Int), (m : Int), 0))
    (fun k i s hi ⟨h1, h2⟩ => by
      obtain ⟨x7, x8, x9, x10⟩ := s
      simp only at h1 h2
      subst h1
      have hx := List.getElem_mem hi
      have hd : dstC fs seen ws[i] = distN fs ws seen i := by
        unfold distN
        rw [List.getD_eq_getElem?_getD, List.getElem?_eq_getElem hi]
        rfl
      have e : spec_ReadSights.l0 (2 * (k + 1)) seen x7 x8 x9 (i : Int) fs ws = if x8 < 0 then spec_ReadSights.j2 (2 * k + 1) seen x7 x8 x9 (i : Int) (distN fs ws seen i : Int) true fs ws else spec_ReadSights.j2 (2 * k + 1) seen x7 x8 x9 (i : Int) (distN fs ws seen i : Int) (decide ((distN fs ws seen i : Int) < x8)) fs ws := by
        show spec_ReadSights.l0 (2 * k + 1 + 1) seen x7 x8 x9 (i : Int) fs ws = _
        simp only [spec_ReadSights.l0]
        rw [if_pos (by omega), specSights_eq hv hi]
        simp only [Option.bind_some]
        rw [specFar_eq (hs _ hx) (hv.len _ hx).2.1, hd]
        rfl
      have hw : wrap64 ((i : Int) + 1) = ((i + 1 : Nat) : Int) := by rw [w64 (by omega) (by omega)]; rfl
      simp only
      rw [e]
      generalize hD : distN fs ws seen = D at *
      -- a new best
      have new : (∀ j, j < i → D i < D j) → ∃ s' : Int × Int × Int × Int, (s'.2.2.2 = ((i + 1 : Nat) : Int) ∧ ((i + 1 = 0 ∧ s'.2.1 = -1 ∧ s'.2.2.1 = 0) ∨ ∃ b m : Nat, b < i + 1 ∧ D b = m ∧ (∀ j, j < i + 1 → m ≤ D j) ∧ s'.1 = (b : Int) ∧ s'.2.1 = (m : Int) ∧ s'.2.2.1 = (cntN D m (i + 1) : Int))) ∧ spec_ReadSights.j2 (2 * k + 1) seen x7 x8 x9 (i : Int) (D i : Int) true fs ws = spec_ReadSights.l0 (2 * k) seen s'.1 s'.2.1 s'.2.2.1 s'.2.2.2 fs ws := fun hlt => by
        refine ⟨((i : Int), (D i : Int), 1, ((i + 1 : Nat) : Int)), ⟨rfl, .inr ⟨i, D i, by omega, rfl, fun j hj => ?_, rfl, rfl, ?_⟩⟩, ?_⟩
        · rcases Nat.lt_succ_iff_lt_or_eq.1 hj with e | e
          · exact Nat.le_of_lt (hlt j e)
          · subst e
            exact Nat.le_refl _
        · simp only
          rw [cntN_succ, if_pos rfl, cntN_none (fun j hj => by have := hlt j hj; omega)]
          rfl
        · simp only [spec_ReadSights.j2, if_true]
          rw [hw]
      rcases h2 with ⟨rfl, rfl, rfl⟩ | ⟨b, m, hb, hbm, hmin, rfl, rfl, rfl⟩
      · rw [if_pos (by decide)]
        exact .inl (new fun j hj => absurd hj (Nat.not_lt_zero _))
      · rw [if_neg (by omega)]
        by_cases hlt : (D i : Int) < (m : Int)
        · rw [decide_eq_true hlt]
          exact .inl (new fun j hj => by have := hmin j hj; omega)
        · rw [decide_eq_false hlt]
          have hcl := cntN_le D m i
          have hmin' : ∀ j, j < i + 1 → m ≤ D j := fun j hj => by
            rcases Nat.lt_succ_iff_lt_or_eq.1 hj with e | e
            · exact hmin j e
            · subst e
              omega
          refine .inl ⟨((b : Int), (m : Int), (cntN D m (i + 1) : Int), ((i + 1 : Nat) : Int)), ⟨rfl, .inr ⟨b, m, by omega, hbm, hmin', rfl, rfl, rfl⟩⟩, ?_⟩
          simp only [spec_ReadSights.j2, Bool.false_eq_true, if_false]
          rw [hw, cntN_succ]
          by_cases he : D i = m
          · rw [if_pos (by omega), if_pos he, w64 (by omega) (by omega)]
            rfl
          · rw [if_neg (by omega), if_neg he]
            rfl)
    (fun k s ⟨h1, h2⟩ => by
      obtain ⟨x7, x8, x9, x10⟩ := s
      simp only at h1 h2
      subst h1
      rcases h2 with ⟨h, _⟩ | ⟨b, m, hb, hbm, hmin, rfl, rfl, rfl⟩
      · omega
      · refine ⟨_, ⟨b, m, hb, hbm, hmin, rfl⟩, ?_⟩
        show spec_ReadSights.l0 (2 * k + 1 + 1) seen _ _ _ _ fs ws = _
        simp only [spec_ReadSights.l0]
        rw [if_neg (by omega)]
        by_cases hc : cntN (distN fs ws seen) m ws.length > 1
        · rw [if_pos (by omega), if_pos hc]
        · rw [if_neg (by omega), if_neg hc]) k (0, -1, 0, 0) ⟨rfl, .inl ⟨rfl, rfl, rfl⟩⟩ (by omega)
theorem implRead_l0 {k : Nat} {fs : List Fl} {ws : Ws} {seen : List Sg} (hv : ValidC fs ws) (hs : ∀ x ∈ ws, x.length = seen.length) {b m : Nat} (hb : b < ws.length) (hbm : distN fs ws seen b = m) (hmin : ∀ j, j < ws.length → m ≤ distN fs ws seen j) (hk : 1000 < k) : impl_ReadSights.l0 k seen 0 fs ws = some (if cntN (distN fs ws seen) m ws.length > 1 then ((0 : Int), (0 : Int), (8 : Int)) else ((b : Int), (m : Int), 0)) := by
  have hm48 : m ≤ 48 := by
    rw [← hbm]
    unfold distN
    rw [List.getD_eq_getElem?_getD, List.getElem?_eq_getElem hb]
    exact dstC_le (hv.len _ (List.getElem_mem hb)).2.1
  obtain ⟨r, hr, h⟩ := loop_inv2 (fun k (s : Int) => impl_ReadSights.l0 k seen s fs ws) m 201 (fun i s => s = (i : Int)) (fun r => r = if cntN (distN fs ws seen) m ws.length > 1 then ((0 : Int), (0 : Int), (8 : Int)) else ((b : Int), (m : Int), 0))
    (fun k i s hi hk h1 => by
      subst h1
      refine .inl ⟨((i + 1 : Nat) : Int), rfl, ?_⟩
      simp only [impl_ReadSights.l0]
      rw [implCand_eq hv hs _ (by omega), candN_none (fun j hj => by have := hmin j hj; omega)]
      simp only [Option.bind_some, List.length_nil]
      rw [if_pos (by rfl), w64 (by omega) (by omega)]
      rfl)
    (fun k s hk h1 => by
      subst h1
      refine ⟨_, rfl, ?_⟩
      simp only [impl_ReadSights.l0]
      rw [implCand_eq hv hs _ (by omega)]
      simp only [Option.bind_some]
      have hl := candN_min hmin
      have hmem := candN_mem hb hbm
      generalize candN (distN fs ws seen) (m : Int) ws.length = L at *
      rw [← hl]
      have hp := List.length_pos_of_mem hmem
      rw [if_neg (by omega)]
      by_cases h1 : L.length = 1
      · rw [if_pos (by omega), if_pos (by omega), if_neg (by omega)]
        obtain ⟨a, rfl⟩ := List.length_eq_one_iff.1 h1
        rw [List.mem_singleton] at hmem
        rw [hmem]
        rfl
      · rw [if_neg (by omega), if_pos (by omega)]) k 0 rfl (by omega)
  subst hr
  exact h
theorem read_both {k : Nat} {fs : List Fl} {ws : Ws} {seen : List Sg} (hl : ws.length ≤ 1048576) (hi : ∀ x ∈ ws, x.length ≤ 1048576) (hw : ∀ x ∈ ws, ∀ c ∈ x, 0 ≤ c ∧ c ≤ 255) (hf : ∀ f ∈ fs, ∀ c ∈ arrL68 f, 0 ≤ c) (hk : 2200002 < k) : ∃ r, spec_ReadSights.f (2 * k + 1) fs ws seen = some r ∧ impl_ReadSights.f (2 * k + 1) fs ws seen = some r := by
  unfold spec_ReadSights.f impl_ReadSights.f
  rw [specOk_eq hl hi (by omega), implOk_eq hw, areSights_eq]
  unfold spec_l05Seen.f
  rw [show seen.all spec_l05Seen.ok = seenOk seen from rfl]
  simp only [Option.bind_some]
  cases hok : okC fs ws
  · refine ⟨(0, 0, 1), ?_, ?_⟩
    · simp [spec_ReadSights.j0]
    · simp [impl_ReadSights.j0]
  · have hv := validC hok hw hf
    rw [if_pos rfl, if_pos rfl]
    cases hso : seenOk seen
    · refine ⟨(0, 0, 1), ?_, ?_⟩
      · simp [spec_ReadSights.j0]
      · simp [impl_ReadSights.j0]
    · simp only [spec_ReadSights.j0, impl_ReadSights.j0, Bool.not_true, Bool.false_eq_true, if_false]
      rw [isSeen_eq]
      have h00 : rd_L2 ws 0 = ws.getD 0 [] := rfl
      rw [h00]
      by_cases h0 : (ws.length : Int) = 0
      · rw [if_pos h0, if_pos h0]
        exact ⟨(0, 0, 6), rfl, rfl⟩
      · rw [if_neg h0, if_neg h0, if_pos (by omega)]
        simp only [Option.bind_some]
        by_cases he : seen.length = (ws.getD 0 []).length
        · have hfit : fitC ws seen = true := by
            unfold fitC
            rw [decide_eq_true he, Bool.or_true]
          have hs := fitC_all hv hfit
          rw [if_pos (by omega), hfit, if_pos rfl]
          obtain ⟨r, ⟨b, m, hb, hbm, hmin, hr⟩, h⟩ := specRead_l0 (k := k) hv hs (by omega) (by omega)
          refine ⟨r, h, ?_⟩
          rw [implRead_l0 hv hs hb hbm hmin (by omega), hr]
        · have hfit : fitC ws seen = false := by
            unfold fitC
            rw [decide_eq_false he, decide_eq_false (show ¬ ws.length = 0 by omega)]
            rfl
          rw [if_neg (by omega), hfit, if_neg (by decide)]
          exact ⟨(0, 0, 2), rfl, rfl⟩
end Go.Proofs.Ytgfknljhogfeaaa.G.Pure
end

section
namespace Go.Proofs.Ytgfknljhogfeaaa.G.Pure
open Go.RowKit Go.Proofs.Ytgfknljhogfeaaa.G Go.Proofs.YtgfknljhogfeaaaW.PrintWords Go.Proofs.YtgfknljhogfeaaaW.PrintLast Go.Proofs.YtgfknljhogfeaaaW.PrintMore
set_option linter.unusedVariables false
set_option linter.unusedSimpArgs false
theorem FnExactReadSights (l0_0 : List S67) (l0_1 : List (List Int)) (l1 : List S60) (h00 : l0_0.length ≤ 9223372036854775807) (h01 : (∀ x ∈ l0_0, (Lit.int .u8 x.f0).wf = true ∧ (Lit.int .u8 x.f1).wf = true ∧ (Lit.int .u8 x.f2).wf = true ∧ (Lit.int .u8 x.f3).wf = true ∧ (Lit.int .u8 x.f4).wf = true ∧ (Lit.int .u8 x.f5).wf = true ∧ (Lit.int .u8 x.f6).wf = true ∧ (Lit.int .u8 x.f7).wf = true ∧ (Lit.int .u8 x.f8).wf = true ∧ (Lit.int .u8 x.f9).wf = true ∧ (Lit.int .u8 x.f10).wf = true ∧ (Lit.int .u8 x.f11).wf = true ∧ (Lit.int .u8 x.f12).wf = true ∧ (Lit.int .u8 x.f13).wf = true ∧ (Lit.int .u8 x.f14).wf = true ∧ (Lit.int .u8 x.f15).wf = true ∧ (Lit.int .u8 x.f16).wf = true ∧ (Lit.int .u8 x.f17).wf = true ∧ (Lit.int .u8 x.f18).wf = true ∧ (Lit.int .u8 x.f19).wf = true ∧ (Lit.int .u8 x.f20).wf = true ∧ (Lit.int .u8 x.f21).wf = true ∧ (Lit.int .u8 x.f22).wf = true ∧ (Lit.int .u8 x.f23).wf = true)) (h10 : l0_1.length ≤ 9223372036854775807) (h11 : (∀ x ∈ l0_1, (x.length ≤ 9223372036854775807 ∧ ∀ x_ ∈ x, (Lit.int .u8 x_).wf = true))) (h20 : l1.length ≤ 9223372036854775807) (h21 : (∀ x ∈ l1, (Lit.int .u8 x.f0).wf = true ∧ (Lit.int .u8 x.f1).wf = true ∧ (Lit.int .u8 x.f2).wf = true ∧ (Lit.int .u8 x.f3).wf = true ∧ (Lit.int .u8 x.f4).wf = true ∧ (Lit.int .u8 x.f5).wf = true)) : ∃ k, laws_FnExactReadSights.f k l0_0 l0_1 l1 = some true := by
  obtain ⟨k, hk⟩ : ∃ k, 3000000 < k := ⟨_, Nat.lt_succ_self _⟩
  refine ⟨2 * k + 1, ?_⟩
  unfold laws_FnExactReadSights.f
  obtain ⟨n, hn, hc⟩ := szCode_cases (k := 2 * k + 1) l0_0 l0_1 h00 h10 (fun x hx => (h11 x hx).1) (by omega)
  rw [hn]
  simp only [Option.bind_some]
  rcases hc with hc | ⟨h1, h2, h3, h4, h5⟩
  · rw [if_pos hc]
  · rw [if_neg (by omega), szSightS_eq l1 n h1 h2 h20]
    simp only [Option.bind_some]
    by_cases hs : n - (l1.length : Int) < 0
    · rw [if_pos hs, if_pos (by omega)]
    · rw [if_neg hs, if_neg hs]
      have hl1 : l1.length ≤ 1048576 := by omega
      have hw := wordsW h11
      have hf := flagsW h01
      have e1 := toCode_eq (k := 2 * k + 1) h3 h4 h5 (by omega)
      have e1' := toCode_eq (k := 2 * k) h3 h4 h5 (by omega)
      have e2 := toSightS_eq l1 hl1
      have q1 := eqCode_self (k := 2 * k) (fs := l0_0.map laws_toFlagS.cv) h4 h5 (by omega)
      have q2 := eqSightS_self (l1.map laws_toSightS.cv)
      obtain ⟨r, hs1, hi1⟩ := read_both (k := k) (fs := l0_0.map laws_toFlagS.cv) (seen := l1.map laws_toSightS.cv) h4 h5 hw hf (by omega)
      generalize l0_0.map laws_toFlagS.cv = fs at *
      generalize l1.map laws_toSightS.cv = sn at *
      simp [laws_FnExactReadSights.j0, e1, e1', e2, q1, q2, hs1, hi1]
end Go.Proofs.Ytgfknljhogfeaaa.G.Pure
end
