/- The law's functions, their contracts, and the plain lemmas: texts of this claim, laid together. -/
import Derived.Test.YtcajnbkbdbkpgacMFnFaults0
section
namespace Go.Proofs.Ytcajnbkbdbkpgac.G
open Go.RowKit Go.Proofs.YtcajnbkbdbkpgacW.PrintWords Go.Proofs.YtcajnbkbdbkpgacW.PrintLast Go.Proofs.YtcajnbkbdbkpgacW.PrintMore
attribute [local go_sem] max2_int min2_int max_two min_two max_three min_three max_four min_four
set_option linter.unusedVariables false
set_option linter.unusedSimpArgs false
def impl_areFaults.l0:Nat→List (S74)→List Int→List (S51)→List (S51)→Int→Int→Option (Bool)
 | 0,_,_,_,_,_,_=>none
 | k + 1,x0,x1,x2,x10,x11,x12=>if x12 < x11 then (if 0≤x12 then (if x12 < (x10.length:Int) then (if x12≤(x2.length:Int) then ((slices_ContainsFunc_Fault_Fault__impl_areFaults_1.f (x2.take (x12:Int).toNat) ((rd_T51 x10 x12).f0) ((rd_T51 x10 x12).f1) ((rd_T51 x10 x12).f2)).bind fun t107=>(if t107=true then (some false) else ((impl_size_Ship.f x0).bind fun t108=>((impl_within.f (wrap64 ((rd_T51 x10 x12).f0)) 1 (wrap64 (t108 - 1))).bind fun t109=>(if t109=true then ((impl_size_int8.f x1).bind fun t110=>((impl_within.f (wrap64 ((rd_T51 x10 x12).f1)) 0 (wrap64 (t110 - 1))).bind fun t111=>(if t111=true then (if 0≤((rd_T51 x10 x12).f1) then (if ((rd_T51 x10 x12).f1) < (x1.length:Int) then (if (rd x1 ((rd_T51 x10 x12).f1)) < 0 then (some false) else ((impl_isKind.f ((rd_T51 x10 x12).f2)).bind fun t113=>(if t113=true then (impl_areFaults.l0 k x0 x1 x2 x10 x11 (wrap64 (x12 + 1))) else (some false)))) else (none)) else (none)) else (some false)))) else (some false)))))) else (none)) else (none)) else (none)) else (some (decide ((x2.length:Int)≤20)))
def impl_areFaults.f (k:Nat) (l0:List (S74)) (l1:List Int) (l2:List (S51)):Option (Bool):=impl_areFaults.l0 k l0 l1 l2 l2 (l2.length:Int) 0
def impl_areFaults.T5:Bool × List (List Nat × List Nat):=(true,[([],[]),([0],[0]),([1],[1]),([2,1],[1,2]),([3,1],[1,3]),([1],[1]),([5,1,1],[1,5]),([6,1],[1,6]),([4,7,6,1],[1,4,7]),([8,1],[1,8]),([1,9],[1,9]),([10,8],[10]),([11],[11]),([12,11],[11,12]),([13,11],[11,13]),([11],[11]),([15,11,11],[11,15]),([16,11],[11,16]),([14,17,16,11],[11,14,17]),([18,11],[11,18]),([11,19],[11,19]),([20,18],[20]),([21],[21]),([21],[21]),([23,21],[21,23]),([22,24,21],[21,22,24]),([25,21],[21,25]),([26,21],[21,26]),([21,27],[21,27]),([28,21],[28]),([29],[29]),([30,29],[29,30]),([31,29,29],[29,31]),([32,29],[29,32]),([29,33],[29,33])])
def impl_areFaults.B5:List Nat:=[0,1,3,7,15,3,35,99,255,511,1023,2047,4095,8191,16383,4095,36863,102399,262143,524287,1048575,2097151,4194303,4194303,12582911,33554431,67108863,134217727,268435455,536870911,1073741823,2147483647,4294967295,8589934591,17179869183]
theorem impl_areFaults.tab5:rtab .any (opsOf Try.f44 5)=impl_areFaults.T5:=by kernel_rfl
theorem impl_areFaults.bits5:waitsOk impl_areFaults.T5.2 impl_areFaults.B5=true:=by kernel_rfl
set_option maxHeartbeats 8000000 in
set_option maxRecDepth 100000 in
theorem impl_areFaults.calls (k:Nat) (A0:Option Addr) (c0:Nat) (l0:List (S74)) (A1:Option Addr) (c1:Nat) (l1:List Int) (A2:Option Addr) (c2:Nat) (l2:List (S51)) (r:Bool) (w:World) (hr0:Kd.C k74 w A0 l0.length l0) (hc0:l0.length≤c0) (hr1:Kd.C (Kd.int .i8) w A1 l1.length l1) (hc1:l1.length≤c1) (hr2:Kd.C k51 w A2 l2.length l2) (hc2:l2.length≤c2) (h:impl_areFaults.f k l0 l1 l2=some r) :
  Calls Try.prog 44 #[.slice A0 l0.length c0,.slice A1 l1.length c1,.slice A2 l2.length c2] w fun e w'=>e=.returned (.bool r)∧Below w.heap.size w w':=by
 have hu51:=Try.underlying51;have HR0:=am hr0;have HC0:=am hc0;clear hr0 hc0;have HR1:=am hr1;have HC1:=am hc1;clear hr1 hc1;have HR2:=am hr2;have HC2:=am hc2;clear hr2 hc2;have HB:=am (Below.refl w.heap.size w);have H:(impl_areFaults.l0 k l0 l1 l2 l2 (l2.length:Int) 0)=some r:=h;clear h;have H':=am H;clear H
 go_enter Try.func44,Try.ntmps44
 go_wp2
 go_loopg [12] k (fun kq v12 w'=>∃ (x12_1:Int),v12=.int .i64 x12_1∧Aside0 (impl_areFaults.l0 kq l0 l1 l2 l2 (l2.length:Int) x12_1=some r)∧Aside0 (kq≤k)∧Aside0 (Below w.heap.size w w'))
 case atStart=>exact ⟨(0),zq3,H',⟨Nat.le_refl _⟩,⟨by repeat (first|(with_reducible first|exact HB.out|apply below_alloc|apply pw_below_drewN|apply below_drew1)|exact HB.out)⟩⟩
 case round =>
  clear H';(try clear c1);(try clear c2);(try clear p2);obtain ⟨x12_1,rfl,HA,HK1,HB⟩:=hrel
  cases gk with
  | zero=>exact absurd HA.out (by simp [impl_areFaults.l0])
  | succ k1 =>
   have H:=HA.out;clear HA;simp only [impl_areFaults.l0] at H
   by_cases c4:x12_1 < (l2.length:Int)
   ·rw [if_pos c4] at H;have c4b0:decide (x12_1 < (l2.length:Int))=true:=decide_eq_true c4;clear c4
    by_cases c5:0≤x12_1
    ·rw [if_pos c5] at H;have c5b0:decide (0≤x12_1)=true:=decide_eq_true c5;clear c5
     by_cases c6:x12_1 < (l2.length:Int)
     ·rw [if_pos c6] at H;have c6b0:decide (x12_1 < (l2.length:Int))=true:=decide_eq_true c6;clear c6;have c7b0:=eq_true (of_decide_eq_true zq1:0≤x12_1)
      by_cases c8:x12_1≤(l2.length:Int)
      ·rw [if_pos c8] at H;have c8b0:=eq_true c8;have c8b1:decide (x12_1≤(l2.length:Int))=true:=decide_eq_true c8;clear c8;obtain ⟨y103,hy103⟩:∃ y_:List (S51),y_=(l2.take (x12_1:Int).toNat):=⟨_,rfl⟩
       replace H:((slices_ContainsFunc_Fault_Fault__impl_areFaults_1.f y103 ((rd_T51 l2 x12_1).f0) ((rd_T51 l2 x12_1).f1) ((rd_T51 l2 x12_1).f2)).bind fun t107=>(if t107=true then (some false) else ((impl_size_Ship.f l0).bind fun t108=>((impl_within.f (wrap64 ((rd_T51 l2 x12_1).f0)) 1 (wrap64 (t108 - 1))).bind fun t109=>(if t109=true then ((impl_size_int8.f l1).bind fun t110=>((impl_within.f (wrap64 ((rd_T51 l2 x12_1).f1)) 0 (wrap64 (t110 - 1))).bind fun t111=>(if t111=true then (if 0≤((rd_T51 l2 x12_1).f1) then (if ((rd_T51 l2 x12_1).f1) < (l1.length:Int) then (if (rd l1 ((rd_T51 l2 x12_1).f1)) < 0 then (some false) else ((impl_isKind.f ((rd_T51 l2 x12_1).f2)).bind fun t113=>(if t113=true then (impl_areFaults.l0 k1 l0 l1 l2 l2 (l2.length:Int) (wrap64 (x12_1 + 1))) else (some false)))) else (none)) else (none)) else (some false)))) else (some false))))))=some r:=by first|(rw [hy103];with_reducible exact H)|(have H2_:=(Option.bind_some _ _).symm.trans H;rw [hy103];with_reducible exact H2_)|(have H2_:=(Option.bind_some _ _).symm.trans H;with_reducible exact H2_)|with_reducible exact H|(rw [hy103];exact H)|exact H
       have Ny103:=am hy103;clear hy103;replace H:=Option.bind_eq_some_iff.mp H;obtain ⟨t107,A90,H⟩:=H;replace H:(if t107=true then (some false) else ((impl_size_Ship.f l0).bind fun t108=>((impl_within.f (wrap64 ((rd_T51 l2 x12_1).f0)) 1 (wrap64 (t108 - 1))).bind fun t109=>(if t109=true then ((impl_size_int8.f l1).bind fun t110=>((impl_within.f (wrap64 ((rd_T51 l2 x12_1).f1)) 0 (wrap64 (t110 - 1))).bind fun t111=>(if t111=true then (if 0≤((rd_T51 l2 x12_1).f1) then (if ((rd_T51 l2 x12_1).f1) < (l1.length:Int) then (if (rd l1 ((rd_T51 l2 x12_1).f1)) < 0 then (some false) else ((impl_isKind.f ((rd_T51 l2 x12_1).f2)).bind fun t113=>(if t113=true then (impl_areFaults.l0 k1 l0 l1 l2 l2 (l2.length:Int) (wrap64 (x12_1 + 1))) else (some false)))) else (none)) else (none)) else (some false)))) else (some false)))))=some r:=H;have A9:=am A90;clear A90
       by_cases c10:t107=true
       ·subst c10
        have H1:(some false)=some r:=by rw [if_pos rfl] at H;exact H
        clear H;have H:=H1;clear H1;obtain rfl:=Option.some.inj H;have p101:0≤(x12_1:Int):=of_decide_eq_true zq1;have q101:x12_1 < (l2.length:Int):=of_decide_eq_true zq1;obtain ⟨ad101,e101,hx101_0,hx101_1,hx101_2⟩:=at_T51 HR2.out x12_1 p101 q101;cases e101;replace hx101_0:=(HB.out.cell (World.block_lt_of_cell? w _ hx101_0)).trans hx101_0;replace hx101_1:=(HB.out.cell (World.block_lt_of_cell? w _ hx101_1)).trans hx101_1;replace hx101_2:=(HB.out.cell (World.block_lt_of_cell? w _ hx101_2)).trans hx101_2;replace p101:=eq_true p101;replace q101:=eq_true q101
        try go_wp2_with (first|((with_reducible refine gate_dst (N:=8) rfl ?_);refine box_event ?hg (N:=8) ?hd (cs:=#[.int .i8 0,.int .i8 0,.int .i8 0]) (t:=51) ?hr ?_;(case hd=>rfl);(case hg=>rfl);(case hr=>exact zq15);intro gb102 hg w11 hbox hb;have n0_:=am (below_step zq0 hb);have n1_:=am (hbox);have n2_:=am ((by rw [hg];exact (below_size zq0):w.heap.size≤gb102));have n3_:=am ((by rw [hg];exact (below_size zq0):w.heap.size≤gb102));clear HB;have HB:=n0_;have BK102:=n1_;have GW102:=n2_;have GE102:=n3_;clear n0_ n1_ n2_ n3_;clear hb hbox hg;have hcz12_0:w11.cell? ⟨gb102,0,none⟩=some (.int .i8 0):=(blk_cell BK102.out 0).trans rfl;have hcz12_1:w11.cell? ⟨gb102,1,none⟩=some (.int .i8 0):=(blk_cell BK102.out 1).trans rfl;have hcz12_2:w11.cell? ⟨gb102,2,none⟩=some (.int .i8 0):=(blk_cell BK102.out 2).trans rfl;have hfz12_0:=blk_frozen BK102.out 0;have hfz12_1:=blk_frozen BK102.out 1;have hfz12_2:=blk_frozen BK102.out 2)|((with_reducible refine gate_store (t:=51) (p:=8) rfl ?_);refine store_event (t:=51) (p:=8) (v:=?vo_w13) (w1:=(((w11.setCell ⟨gb102,0,none⟩ (.int .i8 ((rd_T51 l2 x12_1).f0))).setCell ⟨gb102,1,none⟩ (.int .i8 ((rd_T51 l2 x12_1).f1))).setCell ⟨gb102,2,none⟩ (.int .i8 ((rd_T51 l2 x12_1).f2)))) ?hg ?ho ?hn ?hr ?_;(case ho=>rfl);(case hg=>rfl);(case hn=>rfl);(case hr=>exact zq15);intro w13 hw;have n0_:Aside0 (w13.heap[gb102]?=some (.cells #[.int .i8 ((rd_T51 l2 x12_1).f0),.int .i8 ((rd_T51 l2 x12_1).f1),.int .i8 ((rd_T51 l2 x12_1).f2)] 51 (0,0))):=⟨zq16⟩;have n1_:Aside0 (Below w.heap.size w w13):=⟨(by rw [hw];exact zq22)⟩;clear hw;clear BK102;clear HB;have BK102:=n0_;have HB:=n1_;clear n0_ n1_;have q14:(x12_1:Int)≤((l2.length:Int):Int):=of_decide_eq_true zq1;obtain ⟨i014,hi014,_,hsz14,_⟩:=info_parts info51;have hroom14:l2.length≤c2:=HC2.out;have hC14:Kd.C k51 _ (some ad101) l2.length l2:=HR2.out;have hcut14:=cut_to (P:=Try.prog) 29 51 .i64 Try.underlying29 hi014 (some ad101) l2.length c2 x12_1 (of_decide_eq_true zq1) q14 hroom14;have hr14:=Kd.C_take (m:=(x12_1:Int).toNat) hC14 (by omega);have hy14:y103.length=(x12_1:Int).toNat:=zq128;rw [← Ny103.out] at hr14;rw [← hy14] at hcut14;have HR106:=am hr14;have HC106:=am (show y103.length≤c2 from by omega);clear hr14 hC14 hroom14 hi014 hsz14;have KY14:=am hy14;clear hy14;replace q14:=eq_true q14)|((with_reducible refine gate_callee (f:=57) rfl ?_);refine goesL_ (some 21) rfl rfl Try.func57 zq21 rfl #[.slice (some ad101) y103.length c2,.func (.func 58) #[] #[.pointer (some ⟨gb102,0,none⟩)]] rfl zq2 ?_;(with_reducible refine (slices_ContainsFunc_Fault_Fault__impl_areFaults_1.calls _ _ y103 ((rd_T51 l2 x12_1).f0) ((rd_T51 l2 x12_1).f1) ((rd_T51 l2 x12_1).f2) gb102 true _ ?side1 ?side2 ?side3 A9.out).mono ?_);(case side1=>exact zq57);(case side2=>exact HC106.out);(case side3=>exact zq143);rintro e w15 ⟨rfl,hb⟩;refine ⟨_,rfl,?_⟩;have n0_:=am (blk_below (g:=gb102) (o:=.cells #[.int .i8 ((rd_T51 l2 x12_1).f0),.int .i8 ((rd_T51 l2 x12_1).f1),.int .i8 ((rd_T51 l2 x12_1).f2)] 51 (0,0)) zq143 hb);have n1_:=am (below_step zq22 hb);clear BK102;clear HB;have BK102:=n0_;have HB:=n1_;clear n0_ n1_;(try clear hb);(try clear hb2);(try clear hk);(try clear hi)))
        have n0_:=am (blk_drew BK102.out);have n1_:=am (below_drew1 HB.out);clear BK102;clear HB;have BK102:=n0_;have HB:=n1_;clear n0_ n1_;refine start_ (n:=35) (S:=fun w'=>True) (ds:=[]) #[false,false,false,false,false,false,false,false,false,false,false,false,false,false,false,false,false,false,false,false,false,false,false,false,false,false,false,false,false,false,false,false,false,false,false] zq21 rfl rfl trivial (fun hHeld=>?_);refine with_tabW impl_areFaults.tab5 impl_areFaults.bits5 (fun HT_ HW_=>?_);generalize w15.drew=w16 at BK102 HB hHeld ⊢;refine pure_ (i:=0) (N:=some 22) (v:=?_) (a':=?_) #[true,false,false,false,false,false,false,false,false,false,false,false,false,false,false,false,false,false,false,false,false,false,false,false,false,false,false,false,false,false,false,false,false,false,false] rfl rfl (any_of HT_.out zq21) (fun _ _ _ h=>h) (Or.inl ⟨by rfl,?_⟩) ?_ ?_;rotate_left
        ·intro w';go_simp;with_reducible rfl
        rotate_left
        ·simp only [Act.put,List.setIfInBounds_toArray,List.set_cons_zero,List.set_cons_succ,i64_w,i32_w];rfl
        refine pure_ (i:=1) (N:=some 23) (v:=?_) (a':=?_) #[true,true,false,false,false,false,false,false,false,false,false,false,false,false,false,false,false,false,false,false,false,false,false,false,false,false,false,false,false,false,false,false,false,false,false] rfl rfl (any_of HT_.out zq21) (fun _ _ _ h=>h) (Or.inl ⟨by rfl,?_⟩) ?_ ?_;rotate_left
        ·intro w';go_simp;with_reducible rfl
        rotate_left
        ·simp only [Act.put,List.setIfInBounds_toArray,List.set_cons_zero,List.set_cons_succ,i64_w,i32_w];rfl
        refine pure_ (i:=2) (N:=some 24) (v:=undef) (a':=?_) #[true,true,true,false,false,false,false,false,false,false,false,false,false,false,false,false,false,false,false,false,false,false,false,false,false,false,false,false,false,false,false,false,false,false,false] rfl rfl (any_of HT_.out zq21) (fun _ _ _ h=>h) (Or.inr ⟨by rfl,rfl⟩) ?_ ?_;rotate_left
        ·simp only [Act.put,List.setIfInBounds_toArray,List.set_cons_zero,List.set_cons_succ,i64_w,i32_w];rfl
        refine pure_ (i:=3) (N:=some 25) (v:=undef) (a':=?_) #[true,true,true,true,false,false,false,false,false,false,false,false,false,false,false,false,false,false,false,false,false,false,false,false,false,false,false,false,false,false,false,false,false,false,false] rfl rfl (any_of HT_.out zq21) (fun _ _ _ h=>h) (Or.inr ⟨by rfl,rfl⟩) ?_ ?_;rotate_left
        ·simp only [Act.put,List.setIfInBounds_toArray,List.set_cons_zero,List.set_cons_succ,i64_w,i32_w];rfl
        refine pure_ (i:=4) (N:=some 26) (v:=undef) (a':=?_) #[true,true,true,true,true,false,false,false,false,false,false,false,false,false,false,false,false,false,false,false,false,false,false,false,false,false,false,false,false,false,false,false,false,false,false] rfl rfl (any_of HT_.out zq21) (fun _ _ _ h=>h) (Or.inr ⟨by rfl,rfl⟩) ?_ ?_;rotate_left
        ·simp only [Act.put,List.setIfInBounds_toArray,List.set_cons_zero,List.set_cons_succ,i64_w,i32_w];rfl
        refine pure_ (i:=5) (N:=some 27) (v:=undef) (a':=?_) #[true,true,true,true,true,true,false,false,false,false,false,false,false,false,false,false,false,false,false,false,false,false,false,false,false,false,false,false,false,false,false,false,false,false,false] rfl rfl (any_of HT_.out zq21) (fun _ _ _ h=>h) (Or.inr ⟨by rfl,rfl⟩) ?_ ?_;rotate_left
        ·simp only [Act.put,List.setIfInBounds_toArray,List.set_cons_zero,List.set_cons_succ,i64_w,i32_w];rfl
        refine pure_ (i:=6) (N:=some 28) (v:=undef) (a':=?_) #[true,true,true,true,true,true,true,false,false,false,false,false,false,false,false,false,false,false,false,false,false,false,false,false,false,false,false,false,false,false,false,false,false,false,false] rfl rfl (any_of HT_.out zq21) (fun _ _ _ h=>h) (Or.inr ⟨by rfl,rfl⟩) ?_ ?_;rotate_left
        ·simp only [Act.put,List.setIfInBounds_toArray,List.set_cons_zero,List.set_cons_succ,i64_w,i32_w];rfl
        refine pure_ (i:=7) (N:=some 29) (v:=undef) (a':=?_) #[true,true,true,true,true,true,true,true,false,false,false,false,false,false,false,false,false,false,false,false,false,false,false,false,false,false,false,false,false,false,false,false,false,false,false] rfl rfl (any_of HT_.out zq21) (fun _ _ _ h=>h) (Or.inr ⟨by rfl,rfl⟩) ?_ ?_;rotate_left
        ·simp only [Act.put,List.setIfInBounds_toArray,List.set_cons_zero,List.set_cons_succ,i64_w,i32_w];rfl
        refine pure_ (i:=8) (N:=some 30) (v:=undef) (a':=?_) #[true,true,true,true,true,true,true,true,true,false,false,false,false,false,false,false,false,false,false,false,false,false,false,false,false,false,false,false,false,false,false,false,false,false,false] rfl rfl (any_of HT_.out zq21) (fun _ _ _ h=>h) (Or.inr ⟨by rfl,rfl⟩) ?_ ?_;rotate_left
        ·simp only [Act.put,List.setIfInBounds_toArray,List.set_cons_zero,List.set_cons_succ,i64_w,i32_w];rfl
        refine pure_ (i:=9) (N:=some 31) (v:=undef) (a':=?_) #[true,true,true,true,true,true,true,true,true,true,false,false,false,false,false,false,false,false,false,false,false,false,false,false,false,false,false,false,false,false,false,false,false,false,false] rfl rfl (any_of HT_.out zq21) (fun _ _ _ h=>h) (Or.inr ⟨by rfl,rfl⟩) ?_ ?_;rotate_left
        ·simp only [Act.put,List.setIfInBounds_toArray,List.set_cons_zero,List.set_cons_succ,i64_w,i32_w];rfl
        refine pure_ (i:=10) (N:=some 32) (v:=?_) (a':=?_) #[true,true,true,true,true,true,true,true,true,true,true,false,false,false,false,false,false,false,false,false,false,false,false,false,false,false,false,false,false,false,false,false,false,false,false] rfl rfl (any_of HT_.out zq21) (fun _ _ _ h=>h) (Or.inl ⟨by rfl,?_⟩) ?_ ?_;rotate_left
        ·intro w';go_simp;with_reducible rfl
        rotate_left
        ·simp only [Act.put,List.setIfInBounds_toArray,List.set_cons_zero,List.set_cons_succ,i64_w,i32_w];rfl
        refine pure_ (i:=11) (N:=some 33) (v:=?_) (a':=?_) #[true,true,true,true,true,true,true,true,true,true,true,true,false,false,false,false,false,false,false,false,false,false,false,false,false,false,false,false,false,false,false,false,false,false,false] rfl rfl (any_of HT_.out zq21) (fun _ _ _ h=>h) (Or.inl ⟨by rfl,?_⟩) ?_ ?_;rotate_left
        ·intro w';go_simp;with_reducible rfl
        rotate_left
        ·simp only [Act.put,List.setIfInBounds_toArray,List.set_cons_zero,List.set_cons_succ,i64_w,i32_w];rfl
        refine pure_ (i:=12) (N:=some 34) (v:=undef) (a':=?_) #[true,true,true,true,true,true,true,true,true,true,true,true,true,false,false,false,false,false,false,false,false,false,false,false,false,false,false,false,false,false,false,false,false,false,false] rfl rfl (any_of HT_.out zq21) (fun _ _ _ h=>h) (Or.inr ⟨by rfl,rfl⟩) ?_ ?_;rotate_left
        ·simp only [Act.put,List.setIfInBounds_toArray,List.set_cons_zero,List.set_cons_succ,i64_w,i32_w];rfl
        refine pure_ (i:=13) (N:=some 35) (v:=undef) (a':=?_) #[true,true,true,true,true,true,true,true,true,true,true,true,true,true,false,false,false,false,false,false,false,false,false,false,false,false,false,false,false,false,false,false,false,false,false] rfl rfl (any_of HT_.out zq21) (fun _ _ _ h=>h) (Or.inr ⟨by rfl,rfl⟩) ?_ ?_;rotate_left
        ·simp only [Act.put,List.setIfInBounds_toArray,List.set_cons_zero,List.set_cons_succ,i64_w,i32_w];rfl
        refine pure_ (i:=14) (N:=some 36) (v:=undef) (a':=?_) #[true,true,true,true,true,true,true,true,true,true,true,true,true,true,true,false,false,false,false,false,false,false,false,false,false,false,false,false,false,false,false,false,false,false,false] rfl rfl (any_of HT_.out zq21) (fun _ _ _ h=>h) (Or.inr ⟨by rfl,rfl⟩) ?_ ?_;rotate_left
        ·simp only [Act.put,List.setIfInBounds_toArray,List.set_cons_zero,List.set_cons_succ,i64_w,i32_w];rfl
        refine pure_ (i:=15) (N:=some 37) (v:=undef) (a':=?_) #[true,true,true,true,true,true,true,true,true,true,true,true,true,true,true,true,false,false,false,false,false,false,false,false,false,false,false,false,false,false,false,false,false,false,false] rfl rfl (any_of HT_.out zq21) (fun _ _ _ h=>h) (Or.inr ⟨by rfl,rfl⟩) ?_ ?_;rotate_left
        ·simp only [Act.put,List.setIfInBounds_toArray,List.set_cons_zero,List.set_cons_succ,i64_w,i32_w];rfl
        refine pure_ (i:=16) (N:=some 38) (v:=undef) (a':=?_) #[true,true,true,true,true,true,true,true,true,true,true,true,true,true,true,true,true,false,false,false,false,false,false,false,false,false,false,false,false,false,false,false,false,false,false] rfl rfl (any_of HT_.out zq21) (fun _ _ _ h=>h) (Or.inr ⟨by rfl,rfl⟩) ?_ ?_;rotate_left
        ·simp only [Act.put,List.setIfInBounds_toArray,List.set_cons_zero,List.set_cons_succ,i64_w,i32_w];rfl
        refine pure_ (i:=17) (N:=some 39) (v:=undef) (a':=?_) #[true,true,true,true,true,true,true,true,true,true,true,true,true,true,true,true,true,true,false,false,false,false,false,false,false,false,false,false,false,false,false,false,false,false,false] rfl rfl (any_of HT_.out zq21) (fun _ _ _ h=>h) (Or.inr ⟨by rfl,rfl⟩) ?_ ?_;rotate_left
        ·simp only [Act.put,List.setIfInBounds_toArray,List.set_cons_zero,List.set_cons_succ,i64_w,i32_w];rfl
        refine pure_ (i:=18) (N:=some 40) (v:=undef) (a':=?_) #[true,true,true,true,true,true,true,true,true,true,true,true,true,true,true,true,true,true,true,false,false,false,false,false,false,false,false,false,false,false,false,false,false,false,false] rfl rfl (any_of HT_.out zq21) (fun _ _ _ h=>h) (Or.inr ⟨by rfl,rfl⟩) ?_ ?_;rotate_left
        ·simp only [Act.put,List.setIfInBounds_toArray,List.set_cons_zero,List.set_cons_succ,i64_w,i32_w];rfl
        refine pure_ (i:=19) (N:=some 41) (v:=undef) (a':=?_) #[true,true,true,true,true,true,true,true,true,true,true,true,true,true,true,true,true,true,true,true,false,false,false,false,false,false,false,false,false,false,false,false,false,false,false] rfl rfl (any_of HT_.out zq21) (fun _ _ _ h=>h) (Or.inr ⟨by rfl,rfl⟩) ?_ ?_;rotate_left
        ·simp only [Act.put,List.setIfInBounds_toArray,List.set_cons_zero,List.set_cons_succ,i64_w,i32_w];rfl
        refine pure_ (i:=20) (N:=some 42) (v:=?_) (a':=?_) #[true,true,true,true,true,true,true,true,true,true,true,true,true,true,true,true,true,true,true,true,true,false,false,false,false,false,false,false,false,false,false,false,false,false,false] rfl rfl (any_of HT_.out zq21) (fun _ _ _ h=>h) (Or.inl ⟨by rfl,?_⟩) ?_ ?_;rotate_left
        ·intro w';go_simp;with_reducible rfl
        rotate_left
        ·simp only [Act.put,List.setIfInBounds_toArray,List.set_cons_zero,List.set_cons_succ,i64_w,i32_w];rfl
        refine pure_ (i:=21) (N:=some 43) (v:=?_) (a':=?_) #[true,true,true,true,true,true,true,true,true,true,true,true,true,true,true,true,true,true,true,true,true,true,false,false,false,false,false,false,false,false,false,false,false,false,false] rfl rfl (any_of HT_.out zq21) (fun _ _ _ h=>h) (Or.inl ⟨by rfl,?_⟩) ?_ ?_;rotate_left
        ·intro w';go_simp;with_reducible rfl
        rotate_left
        ·simp only [Act.put,List.setIfInBounds_toArray,List.set_cons_zero,List.set_cons_succ,i64_w,i32_w];rfl
        refine pure_ (i:=22) (N:=some 44) (v:=undef) (a':=?_) #[true,true,true,true,true,true,true,true,true,true,true,true,true,true,true,true,true,true,true,true,true,true,true,false,false,false,false,false,false,false,false,false,false,false,false] rfl rfl (any_of HT_.out zq21) (fun _ _ _ h=>h) (Or.inr ⟨by rfl,rfl⟩) ?_ ?_;rotate_left
        ·simp only [Act.put,List.setIfInBounds_toArray,List.set_cons_zero,List.set_cons_succ,i64_w,i32_w];rfl
        refine pure_ (i:=23) (N:=some 45) (v:=undef) (a':=?_) #[true,true,true,true,true,true,true,true,true,true,true,true,true,true,true,true,true,true,true,true,true,true,true,true,false,false,false,false,false,false,false,false,false,false,false] rfl rfl (any_of HT_.out zq21) (fun _ _ _ h=>h) (Or.inr ⟨by rfl,rfl⟩) ?_ ?_;rotate_left
        ·simp only [Act.put,List.setIfInBounds_toArray,List.set_cons_zero,List.set_cons_succ,i64_w,i32_w];rfl
        refine pure_ (i:=24) (N:=some 46) (v:=undef) (a':=?_) #[true,true,true,true,true,true,true,true,true,true,true,true,true,true,true,true,true,true,true,true,true,true,true,true,true,false,false,false,false,false,false,false,false,false,false] rfl rfl (any_of HT_.out zq21) (fun _ _ _ h=>h) (Or.inr ⟨by rfl,rfl⟩) ?_ ?_;rotate_left
        ·simp only [Act.put,List.setIfInBounds_toArray,List.set_cons_zero,List.set_cons_succ,i64_w,i32_w];rfl
        refine pure_ (i:=25) (N:=some 47) (v:=undef) (a':=?_) #[true,true,true,true,true,true,true,true,true,true,true,true,true,true,true,true,true,true,true,true,true,true,true,true,true,true,false,false,false,false,false,false,false,false,false] rfl rfl (any_of HT_.out zq21) (fun _ _ _ h=>h) (Or.inr ⟨by rfl,rfl⟩) ?_ ?_;rotate_left
        ·simp only [Act.put,List.setIfInBounds_toArray,List.set_cons_zero,List.set_cons_succ,i64_w,i32_w];rfl
        refine pure_ (i:=26) (N:=some 48) (v:=undef) (a':=?_) #[true,true,true,true,true,true,true,true,true,true,true,true,true,true,true,true,true,true,true,true,true,true,true,true,true,true,true,false,false,false,false,false,false,false,false] rfl rfl (any_of HT_.out zq21) (fun _ _ _ h=>h) (Or.inr ⟨by rfl,rfl⟩) ?_ ?_;rotate_left
        ·simp only [Act.put,List.setIfInBounds_toArray,List.set_cons_zero,List.set_cons_succ,i64_w,i32_w];rfl
        refine pure_ (i:=27) (N:=some 49) (v:=undef) (a':=?_) #[true,true,true,true,true,true,true,true,true,true,true,true,true,true,true,true,true,true,true,true,true,true,true,true,true,true,true,true,false,false,false,false,false,false,false] rfl rfl (any_of HT_.out zq21) (fun _ _ _ h=>h) (Or.inr ⟨by rfl,rfl⟩) ?_ ?_;rotate_left
        ·simp only [Act.put,List.setIfInBounds_toArray,List.set_cons_zero,List.set_cons_succ,i64_w,i32_w];rfl
        refine pure_ (i:=28) (N:=some 50) (v:=?_) (a':=?_) #[true,true,true,true,true,true,true,true,true,true,true,true,true,true,true,true,true,true,true,true,true,true,true,true,true,true,true,true,true,false,false,false,false,false,false] rfl rfl (any_of HT_.out zq21) (fun _ _ _ h=>h) (Or.inl ⟨by rfl,?_⟩) ?_ ?_;rotate_left
        ·intro w';go_simp;with_reducible rfl
        rotate_left
        ·simp only [Act.put,List.setIfInBounds_toArray,List.set_cons_zero,List.set_cons_succ,i64_w,i32_w];rfl
        refine pure_ (i:=29) (N:=some 51) (v:=?_) (a':=?_) #[true,true,true,true,true,true,true,true,true,true,true,true,true,true,true,true,true,true,true,true,true,true,true,true,true,true,true,true,true,true,false,false,false,false,false] rfl rfl (any_of HT_.out zq21) (fun _ _ _ h=>h) (Or.inl ⟨by rfl,?_⟩) ?_ ?_;rotate_left
        ·intro w';go_simp;with_reducible rfl
        rotate_left
        ·simp only [Act.put,List.setIfInBounds_toArray,List.set_cons_zero,List.set_cons_succ,i64_w,i32_w];rfl
        refine pure_ (i:=30) (N:=some 52) (v:=undef) (a':=?_) #[true,true,true,true,true,true,true,true,true,true,true,true,true,true,true,true,true,true,true,true,true,true,true,true,true,true,true,true,true,true,true,false,false,false,false] rfl rfl (any_of HT_.out zq21) (fun _ _ _ h=>h) (Or.inr ⟨by rfl,rfl⟩) ?_ ?_;rotate_left
        ·simp only [Act.put,List.setIfInBounds_toArray,List.set_cons_zero,List.set_cons_succ,i64_w,i32_w];rfl
        refine pure_ (i:=31) (N:=some 53) (v:=undef) (a':=?_) #[true,true,true,true,true,true,true,true,true,true,true,true,true,true,true,true,true,true,true,true,true,true,true,true,true,true,true,true,true,true,true,true,false,false,false] rfl rfl (any_of HT_.out zq21) (fun _ _ _ h=>h) (Or.inr ⟨by rfl,rfl⟩) ?_ ?_;rotate_left
        ·simp only [Act.put,List.setIfInBounds_toArray,List.set_cons_zero,List.set_cons_succ,i64_w,i32_w];rfl
        refine pure_ (i:=32) (N:=some 54) (v:=undef) (a':=?_) #[true,true,true,true,true,true,true,true,true,true,true,true,true,true,true,true,true,true,true,true,true,true,true,true,true,true,true,true,true,true,true,true,true,false,false] rfl rfl (any_of HT_.out zq21) (fun _ _ _ h=>h) (Or.inr ⟨by rfl,rfl⟩) ?_ ?_;rotate_left
        ·simp only [Act.put,List.setIfInBounds_toArray,List.set_cons_zero,List.set_cons_succ,i64_w,i32_w];rfl
        refine pure_ (i:=33) (N:=some 55) (v:=undef) (a':=?_) #[true,true,true,true,true,true,true,true,true,true,true,true,true,true,true,true,true,true,true,true,true,true,true,true,true,true,true,true,true,true,true,true,true,true,false] rfl rfl (any_of HT_.out zq21) (fun _ _ _ h=>h) (Or.inr ⟨by rfl,rfl⟩) ?_ ?_;rotate_left
        ·simp only [Act.put,List.setIfInBounds_toArray,List.set_cons_zero,List.set_cons_succ,i64_w,i32_w];rfl
        refine pure_ (i:=34) (N:=some 56) (v:=?_) (a':=?_) #[true,true,true,true,true,true,true,true,true,true,true,true,true,true,true,true,true,true,true,true,true,true,true,true,true,true,true,true,true,true,true,true,true,true,true] rfl rfl (any_of HT_.out zq21) (fun _ _ _ h=>h) (Or.inl ⟨by rfl,?_⟩) ?_ ?_;rotate_left
        ·intro w';go_simp;with_reducible rfl
        rotate_left
        ·simp only [Act.put,List.setIfInBounds_toArray,List.set_cons_zero,List.set_cons_succ,i64_w,i32_w];rfl
        refine done_ (done_of HT_.out zq21) ?_;(try go_wp2)
        go_ret
        exact ⟨by first|rfl|(simp [errW_none,errW_some,IntKind.wrap_i64,wrap64];done)|(simp [errW_none,errW_some] <;> rfl)|(simp [*,errW_none,errW_some] <;> rfl),by repeat (first|(with_reducible first|exact HB.out|apply below_alloc|apply pw_below_drewN|apply below_drew1|refine below_set ?_ GE102.out)|exact HB.out)⟩
       ·replace c10:=Bool.eq_false_iff.mpr c10;subst c10
        have H1:((impl_size_Ship.f l0).bind fun t108=>((impl_within.f (wrap64 ((rd_T51 l2 x12_1).f0)) 1 (wrap64 (t108 - 1))).bind fun t109=>(if t109=true then ((impl_size_int8.f l1).bind fun t110=>((impl_within.f (wrap64 ((rd_T51 l2 x12_1).f1)) 0 (wrap64 (t110 - 1))).bind fun t111=>(if t111=true then (if 0≤((rd_T51 l2 x12_1).f1) then (if ((rd_T51 l2 x12_1).f1) < (l1.length:Int) then (if (rd l1 ((rd_T51 l2 x12_1).f1)) < 0 then (some false) else ((impl_isKind.f ((rd_T51 l2 x12_1).f2)).bind fun t113=>(if t113=true then (impl_areFaults.l0 k1 l0 l1 l2 l2 (l2.length:Int) (wrap64 (x12_1 + 1))) else (some false)))) else (none)) else (none)) else (some false)))) else (some false))))=some r:=by rw [if_neg (show ¬ (false=true) by decide)] at H;exact H
        clear H;have H:=H1;clear H1;replace H:=Option.bind_eq_some_iff.mp H;obtain ⟨t108,A170,H⟩:=H;replace H:((impl_within.f (wrap64 ((rd_T51 l2 x12_1).f0)) 1 (wrap64 (t108 - 1))).bind fun t109=>(if t109=true then ((impl_size_int8.f l1).bind fun t110=>((impl_within.f (wrap64 ((rd_T51 l2 x12_1).f1)) 0 (wrap64 (t110 - 1))).bind fun t111=>(if t111=true then (if 0≤((rd_T51 l2 x12_1).f1) then (if ((rd_T51 l2 x12_1).f1) < (l1.length:Int) then (if (rd l1 ((rd_T51 l2 x12_1).f1)) < 0 then (some false) else ((impl_isKind.f ((rd_T51 l2 x12_1).f2)).bind fun t113=>(if t113=true then (impl_areFaults.l0 k1 l0 l1 l2 l2 (l2.length:Int) (wrap64 (x12_1 + 1))) else (some false)))) else (none)) else (none)) else (some false)))) else (some false)))=some r:=H;have A17:=am A170;clear A170;replace H:=Option.bind_eq_some_iff.mp H;obtain ⟨t109,A180,H⟩:=H;replace H:(if t109=true then ((impl_size_int8.f l1).bind fun t110=>((impl_within.f (wrap64 ((rd_T51 l2 x12_1).f1)) 0 (wrap64 (t110 - 1))).bind fun t111=>(if t111=true then (if 0≤((rd_T51 l2 x12_1).f1) then (if ((rd_T51 l2 x12_1).f1) < (l1.length:Int) then (if (rd l1 ((rd_T51 l2 x12_1).f1)) < 0 then (some false) else ((impl_isKind.f ((rd_T51 l2 x12_1).f2)).bind fun t113=>(if t113=true then (impl_areFaults.l0 k1 l0 l1 l2 l2 (l2.length:Int) (wrap64 (x12_1 + 1))) else (some false)))) else (none)) else (none)) else (some false)))) else (some false))=some r:=H;have A18:=am A180;clear A180
        by_cases c19:t109=true
        ·subst c19
         have H1:((impl_size_int8.f l1).bind fun t110=>((impl_within.f (wrap64 ((rd_T51 l2 x12_1).f1)) 0 (wrap64 (t110 - 1))).bind fun t111=>(if t111=true then (if 0≤((rd_T51 l2 x12_1).f1) then (if ((rd_T51 l2 x12_1).f1) < (l1.length:Int) then (if (rd l1 ((rd_T51 l2 x12_1).f1)) < 0 then (some false) else ((impl_isKind.f ((rd_T51 l2 x12_1).f2)).bind fun t113=>(if t113=true then (impl_areFaults.l0 k1 l0 l1 l2 l2 (l2.length:Int) (wrap64 (x12_1 + 1))) else (some false)))) else (none)) else (none)) else (some false))))=some r:=by rw [if_pos rfl] at H;exact H
         clear H;have H:=H1;clear H1;replace H:=Option.bind_eq_some_iff.mp H;obtain ⟨t110,A200,H⟩:=H;replace H:((impl_within.f (wrap64 ((rd_T51 l2 x12_1).f1)) 0 (wrap64 (t110 - 1))).bind fun t111=>(if t111=true then (if 0≤((rd_T51 l2 x12_1).f1) then (if ((rd_T51 l2 x12_1).f1) < (l1.length:Int) then (if (rd l1 ((rd_T51 l2 x12_1).f1)) < 0 then (some false) else ((impl_isKind.f ((rd_T51 l2 x12_1).f2)).bind fun t113=>(if t113=true then (impl_areFaults.l0 k1 l0 l1 l2 l2 (l2.length:Int) (wrap64 (x12_1 + 1))) else (some false)))) else (none)) else (none)) else (some false)))=some r:=H;have A20:=am A200;clear A200;replace H:=Option.bind_eq_some_iff.mp H;obtain ⟨t111,A210,H⟩:=H;replace H:(if t111=true then (if 0≤((rd_T51 l2 x12_1).f1) then (if ((rd_T51 l2 x12_1).f1) < (l1.length:Int) then (if (rd l1 ((rd_T51 l2 x12_1).f1)) < 0 then (some false) else ((impl_isKind.f ((rd_T51 l2 x12_1).f2)).bind fun t113=>(if t113=true then (impl_areFaults.l0 k1 l0 l1 l2 l2 (l2.length:Int) (wrap64 (x12_1 + 1))) else (some false)))) else (none)) else (none)) else (some false))=some r:=H;have A21:=am A210;clear A210
         by_cases c22:t111=true
         ·subst c22
          have H1:(if 0≤((rd_T51 l2 x12_1).f1) then (if ((rd_T51 l2 x12_1).f1) < (l1.length:Int) then (if (rd l1 ((rd_T51 l2 x12_1).f1)) < 0 then (some false) else ((impl_isKind.f ((rd_T51 l2 x12_1).f2)).bind fun t113=>(if t113=true then (impl_areFaults.l0 k1 l0 l1 l2 l2 (l2.length:Int) (wrap64 (x12_1 + 1))) else (some false)))) else (none)) else (none))=some r:=by rw [if_pos rfl] at H;exact H
          clear H;have H:=H1;clear H1
          by_cases c23:0≤((rd_T51 l2 x12_1).f1)
          ·rw [if_pos c23] at H;have c23b0:decide (0≤((rd_T51 l2 x12_1).f1))=true:=decide_eq_true c23;clear c23
           by_cases c24:((rd_T51 l2 x12_1).f1) < (l1.length:Int)
           ·rw [if_pos c24] at H;have c24b0:decide (((rd_T51 l2 x12_1).f1) < (l1.length:Int))=true:=decide_eq_true c24;clear c24
            by_cases c25:(rd l1 ((rd_T51 l2 x12_1).f1)) < 0
            ·rw [if_pos c25] at H;have c25b0:decide ((rd l1 ((rd_T51 l2 x12_1).f1)) < 0)=true:=decide_eq_true c25;clear c25;obtain rfl:=Option.some.inj H;have p101:0≤(x12_1:Int):=of_decide_eq_true zq1;have q101:x12_1 < (l2.length:Int):=of_decide_eq_true zq1;obtain ⟨ad101,e101,hx101_0,hx101_1,hx101_2⟩:=at_T51 HR2.out x12_1 p101 q101;cases e101;replace hx101_0:=(HB.out.cell (World.block_lt_of_cell? w _ hx101_0)).trans hx101_0;replace hx101_1:=(HB.out.cell (World.block_lt_of_cell? w _ hx101_1)).trans hx101_1;replace hx101_2:=(HB.out.cell (World.block_lt_of_cell? w _ hx101_2)).trans hx101_2;replace p101:=eq_true p101;replace q101:=eq_true q101
             try go_wp2_with (first|((with_reducible refine gate_dst (N:=8) rfl ?_);refine box_event ?hg (N:=8) ?hd (cs:=#[.int .i8 0,.int .i8 0,.int .i8 0]) (t:=51) ?hr ?_;(case hd=>rfl);(case hg=>rfl);(case hr=>exact zq15);intro gb102 hg w26 hbox hb;have n0_:=am (below_step zq0 hb);have n1_:=am (hbox);have n2_:=am ((by rw [hg];exact (below_size zq0):w.heap.size≤gb102));have n3_:=am ((by rw [hg];exact (below_size zq0):w.heap.size≤gb102));clear HB;have HB:=n0_;have BK102:=n1_;have GW102:=n2_;have GE102:=n3_;clear n0_ n1_ n2_ n3_;clear hb hbox hg;have hcz27_0:w26.cell? ⟨gb102,0,none⟩=some (.int .i8 0):=(blk_cell BK102.out 0).trans rfl;have hcz27_1:w26.cell? ⟨gb102,1,none⟩=some (.int .i8 0):=(blk_cell BK102.out 1).trans rfl;have hcz27_2:w26.cell? ⟨gb102,2,none⟩=some (.int .i8 0):=(blk_cell BK102.out 2).trans rfl;have hfz27_0:=blk_frozen BK102.out 0;have hfz27_1:=blk_frozen BK102.out 1;have hfz27_2:=blk_frozen BK102.out 2)|((with_reducible refine gate_store (t:=51) (p:=8) rfl ?_);refine store_event (t:=51) (p:=8) (v:=?vo_w28) (w1:=(((w26.setCell ⟨gb102,0,none⟩ (.int .i8 ((rd_T51 l2 x12_1).f0))).setCell ⟨gb102,1,none⟩ (.int .i8 ((rd_T51 l2 x12_1).f1))).setCell ⟨gb102,2,none⟩ (.int .i8 ((rd_T51 l2 x12_1).f2)))) ?hg ?ho ?hn ?hr ?_;(case ho=>rfl);(case hg=>rfl);(case hn=>rfl);(case hr=>exact zq15);intro w28 hw;have n0_:Aside0 (w28.heap[gb102]?=some (.cells #[.int .i8 ((rd_T51 l2 x12_1).f0),.int .i8 ((rd_T51 l2 x12_1).f1),.int .i8 ((rd_T51 l2 x12_1).f2)] 51 (0,0))):=⟨zq16⟩;have n1_:Aside0 (Below w.heap.size w w28):=⟨(by rw [hw];exact zq22)⟩;clear hw;clear BK102;clear HB;have BK102:=n0_;have HB:=n1_;clear n0_ n1_;have q29:(x12_1:Int)≤((l2.length:Int):Int):=of_decide_eq_true zq1;obtain ⟨i029,hi029,_,hsz29,_⟩:=info_parts info51;have hroom29:l2.length≤c2:=HC2.out;have hC29:Kd.C k51 _ (some ad101) l2.length l2:=HR2.out;have hcut29:=cut_to (P:=Try.prog) 29 51 .i64 Try.underlying29 hi029 (some ad101) l2.length c2 x12_1 (of_decide_eq_true zq1) q29 hroom29;have hr29:=Kd.C_take (m:=(x12_1:Int).toNat) hC29 (by omega);have hy29:y103.length=(x12_1:Int).toNat:=zq128;rw [← Ny103.out] at hr29;rw [← hy29] at hcut29;have HR106:=am hr29;have HC106:=am (show y103.length≤c2 from by omega);clear hr29 hC29 hroom29 hi029 hsz29;have KY29:=am hy29;clear hy29;replace q29:=eq_true q29)|((with_reducible refine gate_callee (f:=57) rfl ?_);refine goesL_ (some 21) rfl rfl Try.func57 zq21 rfl #[.slice (some ad101) y103.length c2,.func (.func 58) #[] #[.pointer (some ⟨gb102,0,none⟩)]] rfl zq2 ?_;(with_reducible refine (slices_ContainsFunc_Fault_Fault__impl_areFaults_1.calls _ _ y103 ((rd_T51 l2 x12_1).f0) ((rd_T51 l2 x12_1).f1) ((rd_T51 l2 x12_1).f2) gb102 false _ ?side1 ?side2 ?side3 A9.out).mono ?_);(case side1=>exact zq57);(case side2=>exact HC106.out);(case side3=>exact zq143);rintro e w30 ⟨rfl,hb⟩;refine ⟨_,rfl,?_⟩;have n0_:=am (blk_below (g:=gb102) (o:=.cells #[.int .i8 ((rd_T51 l2 x12_1).f0),.int .i8 ((rd_T51 l2 x12_1).f1),.int .i8 ((rd_T51 l2 x12_1).f2)] 51 (0,0)) zq143 hb);have n1_:=am (below_step zq22 hb);clear BK102;clear HB;have BK102:=n0_;have HB:=n1_;clear n0_ n1_;(try clear hb);(try clear hb2);(try clear hk);(try clear hi)))
             have n0_:=am (blk_drew BK102.out);have n1_:=am (below_drew1 HB.out);clear BK102;clear HB;have BK102:=n0_;have HB:=n1_;clear n0_ n1_;have p112:0≤(((rd_T51 l2 x12_1).f1):Int):=of_decide_eq_true zq1;have q112:((rd_T51 l2 x12_1).f1) < (l1.length:Int):=of_decide_eq_true zq1;obtain ⟨ad112,e112,hx112_0⟩:=Kd.at_int HR1.out ((rd_T51 l2 x12_1).f1) p112 q112;have hw112_0:=hx112_0;cases e112;replace hx112_0:=(HB.out.cell (World.block_lt_of_cell? w _ hx112_0)).trans hx112_0;replace p112:=eq_true p112;replace q112:=eq_true q112;refine start_ (n:=35) (S:=fun w'=>w'.cell? ⟨gb102,0,none⟩=some (.int .i8 ((rd_T51 l2 x12_1).f0))∧w'.cell? ⟨gb102,1,none⟩=some (.int .i8 ((rd_T51 l2 x12_1).f1))∧w'.cell? ⟨gb102,2,none⟩=some (.int .i8 ((rd_T51 l2 x12_1).f2))∧w'.cell? (ad112.add (((rd_T51 l2 x12_1).f1)).toNat)=some (.int .i8 (rd l1 ((rd_T51 l2 x12_1).f1)))) (ds:=[]) #[false,false,false,false,false,false,false,false,false,false,false,false,false,false,false,false,false,false,false,false,false,false,false,false,false,false,false,false,false,false,false,false,false,false,false] zq21 rfl rfl ⟨(blk_cell BK102.out 0).trans rfl,(blk_cell BK102.out 1).trans rfl,(blk_cell BK102.out 2).trans rfl,((HB.out.cell (World.block_lt_of_cell? w _ hw112_0)).trans hw112_0)⟩ (fun hHeld=>?_);refine with_tabW impl_areFaults.tab5 impl_areFaults.bits5 (fun HT_ HW_=>?_);generalize w30.drew=w31 at BK102 HB hx112_0 hHeld ⊢;refine pure_ (i:=0) (N:=some 22) (v:=?_) (a':=?_) #[true,false,false,false,false,false,false,false,false,false,false,false,false,false,false,false,false,false,false,false,false,false,false,false,false,false,false,false,false,false,false,false,false,false,false] rfl rfl (any_of HT_.out zq21) (fun _ _ _ h=>h) (Or.inl ⟨by rfl,?_⟩) ?_ ?_;rotate_left
             ·intro w';go_simp;with_reducible rfl
             rotate_left
             ·simp only [Act.put,List.setIfInBounds_toArray,List.set_cons_zero,List.set_cons_succ,i64_w,i32_w];rfl
             refine pure_ (i:=1) (N:=some 23) (v:=?_) (a':=?_) #[true,true,false,false,false,false,false,false,false,false,false,false,false,false,false,false,false,false,false,false,false,false,false,false,false,false,false,false,false,false,false,false,false,false,false] rfl rfl (any_of HT_.out zq21) (fun _ _ _ h=>h) (Or.inl ⟨by rfl,?_⟩) ?_ ?_;rotate_left
             ·intro w';go_simp;with_reducible rfl
             rotate_left
             ·simp only [Act.put,List.setIfInBounds_toArray,List.set_cons_zero,List.set_cons_succ,i64_w,i32_w];rfl
             refine pure_ (i:=2) (N:=some 24) (v:=?_) (a':=?_) #[true,true,true,false,false,false,false,false,false,false,false,false,false,false,false,false,false,false,false,false,false,false,false,false,false,false,false,false,false,false,false,false,false,false,false] rfl rfl (any_of HT_.out zq21) (fun _ _ _ h=>h) (Or.inl ⟨by rfl,?_⟩) ?_ ?_;rotate_left
             ·intro w';go_simp;with_reducible rfl
             rotate_left
             ·simp only [Act.put,List.setIfInBounds_toArray,List.set_cons_zero,List.set_cons_succ,i64_w,i32_w];rfl
             refine pure_ (i:=5) (N:=some 27) (v:=?_) (a':=?_) #[true,true,true,false,false,true,false,false,false,false,false,false,false,false,false,false,false,false,false,false,false,false,false,false,false,false,false,false,false,false,false,false,false,false,false] rfl rfl (any_of HT_.out zq21) (fun _ _ _ h=>h) (Or.inl ⟨by rfl,?_⟩) ?_ ?_;rotate_left
             ·intro w';go_simp;with_reducible rfl
             rotate_left
             ·simp only [Act.put,List.setIfInBounds_toArray,List.set_cons_zero,List.set_cons_succ,i64_w,i32_w];rfl
             refine take_ (i:=3) (N:=some 25) (v:=?_) (a':=?_) #[true,true,true,true,false,true,false,false,false,false,false,false,false,false,false,false,false,false,false,false,false,false,false,false,false,false,false,false,false,false,false,false,false,false,false] rfl rfl (take_ofW HT_.out HW_.out zq21) (fun _ _ _ h=>h) (Or.inl ⟨by rfl,?_⟩) hHeld ?_ ?_;rotate_left
             ·rintro w' ⟨s0,s1,s2,s3⟩
              go_simp;with_reducible rfl
             rotate_left
             ·simp only [Act.put,List.setIfInBounds_toArray,List.set_cons_zero,List.set_cons_succ,i64_w,i32_w];rfl
             refine pure_ (i:=4) (N:=some 26) (v:=?_) (a':=?_) #[true,true,true,true,true,true,false,false,false,false,false,false,false,false,false,false,false,false,false,false,false,false,false,false,false,false,false,false,false,false,false,false,false,false,false] rfl rfl (any_of HT_.out zq21) (fun _ _ _ h=>h) (Or.inl ⟨by rfl,?_⟩) ?_ ?_;rotate_left
             ·intro w';go_simp;with_reducible rfl
             rotate_left
             ·simp only [Act.put,List.setIfInBounds_toArray,List.set_cons_zero,List.set_cons_succ,i64_w,i32_w];rfl
             refine one_ (i:=6) (N:=some 28) #[true,true,true,true,true,true,true,false,false,false,false,false,false,false,false,false,false,false,false,false,false,false,false,false,false,false,false,false,false,false,false,false,false,false,false] rfl rfl (one_of HT_.out zq21) (by decide) (fun K hK=>?_);refine goes_ Try.func54 zq21 rfl #[.slice A0 l0.length c0] (by rfl) rfl rfl zq2 ?_
             with_reducible refine (impl_size_Ship.calls _ _ l0 t108 _ ?side1 ?side2 A17.out).mono ?_
             (case side1=>exact zq17);(case side2=>exact HC0.out)
             rintro e w' ⟨rfl,⟨nd,rfl⟩⟩
             refine ⟨_,rfl,?_⟩;refine hK.out _ _ ⟨(blk_cell BK102.out 0).trans rfl,(blk_cell BK102.out 1).trans rfl,(blk_cell BK102.out 2).trans rfl,((HB.out.cell (World.block_lt_of_cell? w _ hw112_0)).trans hw112_0)⟩ (fun hHeld=>?_);clear hK K;refine norm_ (a':=?_) ?_ ?_;rotate_left
             ·show Act.put _ (some 28) _=_
              simp only [Act.put,List.setIfInBounds_toArray,List.set_cons_zero,List.set_cons_succ,i64_w,i32_w];rfl
             refine pure_ (i:=7) (N:=some 29) (v:=?_) (a':=?_) #[true,true,true,true,true,true,true,true,false,false,false,false,false,false,false,false,false,false,false,false,false,false,false,false,false,false,false,false,false,false,false,false,false,false,false] rfl rfl (any_of HT_.out zq21) (fun _ _ _ h=>h) (Or.inl ⟨by rfl,?_⟩) ?_ ?_;rotate_left
             ·intro w';go_simp;with_reducible rfl
             rotate_left
             ·simp only [Act.put,List.setIfInBounds_toArray,List.set_cons_zero,List.set_cons_succ,i64_w,i32_w];rfl
             refine one_ (i:=8) (N:=some 30) #[true,true,true,true,true,true,true,true,true,false,false,false,false,false,false,false,false,false,false,false,false,false,false,false,false,false,false,false,false,false,false,false,false,false,false] rfl rfl (one_of HT_.out zq21) (by decide) (fun K hK=>?_);refine goes_ Try.func48 zq21 rfl #[.int .i64 (wrap64 ((rd_T51 l2 x12_1).f0)),.int .i64 1,.int .i64 (wrap64 (t108 - 1))] (by rfl) rfl rfl zq2 ?_
             with_reducible refine (impl_within.calls (wrap64 ((rd_T51 l2 x12_1).f0)) 1 (wrap64 (t108 - 1)) true _ A18.out).mono ?_
             rintro e w' ⟨rfl,⟨nd,rfl⟩⟩
             refine ⟨_,rfl,?_⟩;refine hK.out _ _ ⟨(blk_cell BK102.out 0).trans rfl,(blk_cell BK102.out 1).trans rfl,(blk_cell BK102.out 2).trans rfl,((HB.out.cell (World.block_lt_of_cell? w _ hw112_0)).trans hw112_0)⟩ (fun hHeld=>?_);clear hK K;refine norm_ (a':=?_) ?_ ?_;rotate_left
             ·show Act.put _ (some 30) _=_
              simp only [Act.put,List.setIfInBounds_toArray,List.set_cons_zero,List.set_cons_succ,i64_w,i32_w];rfl
             refine pure_ (i:=9) (N:=some 31) (v:=?_) (a':=?_) #[true,true,true,true,true,true,true,true,true,true,false,false,false,false,false,false,false,false,false,false,false,false,false,false,false,false,false,false,false,false,false,false,false,false,false] rfl rfl (any_of HT_.out zq21) (fun _ _ _ h=>h) (Or.inl ⟨by rfl,?_⟩) ?_ ?_;rotate_left
             ·intro w';go_simp;with_reducible rfl
             rotate_left
             ·simp only [Act.put,List.setIfInBounds_toArray,List.set_cons_zero,List.set_cons_succ,i64_w,i32_w];rfl
             refine pure_ (i:=10) (N:=some 32) (v:=?_) (a':=?_) #[true,true,true,true,true,true,true,true,true,true,true,false,false,false,false,false,false,false,false,false,false,false,false,false,false,false,false,false,false,false,false,false,false,false,false] rfl rfl (any_of HT_.out zq21) (fun _ _ _ h=>h) (Or.inl ⟨by rfl,?_⟩) ?_ ?_;rotate_left
             ·intro w';go_simp;with_reducible rfl
             rotate_left
             ·simp only [Act.put,List.setIfInBounds_toArray,List.set_cons_zero,List.set_cons_succ,i64_w,i32_w];rfl
             refine pure_ (i:=11) (N:=some 33) (v:=?_) (a':=?_) #[true,true,true,true,true,true,true,true,true,true,true,true,false,false,false,false,false,false,false,false,false,false,false,false,false,false,false,false,false,false,false,false,false,false,false] rfl rfl (any_of HT_.out zq21) (fun _ _ _ h=>h) (Or.inl ⟨by rfl,?_⟩) ?_ ?_;rotate_left
             ·intro w';go_simp;with_reducible rfl
             rotate_left
             ·simp only [Act.put,List.setIfInBounds_toArray,List.set_cons_zero,List.set_cons_succ,i64_w,i32_w];rfl
             refine pure_ (i:=12) (N:=some 34) (v:=?_) (a':=?_) #[true,true,true,true,true,true,true,true,true,true,true,true,true,false,false,false,false,false,false,false,false,false,false,false,false,false,false,false,false,false,false,false,false,false,false] rfl rfl (any_of HT_.out zq21) (fun _ _ _ h=>h) (Or.inl ⟨by rfl,?_⟩) ?_ ?_;rotate_left
             ·intro w';go_simp;with_reducible rfl
             rotate_left
             ·simp only [Act.put,List.setIfInBounds_toArray,List.set_cons_zero,List.set_cons_succ,i64_w,i32_w];rfl
             refine pure_ (i:=15) (N:=some 37) (v:=?_) (a':=?_) #[true,true,true,true,true,true,true,true,true,true,true,true,true,false,false,true,false,false,false,false,false,false,false,false,false,false,false,false,false,false,false,false,false,false,false] rfl rfl (any_of HT_.out zq21) (fun _ _ _ h=>h) (Or.inl ⟨by rfl,?_⟩) ?_ ?_;rotate_left
             ·intro w';go_simp;with_reducible rfl
             rotate_left
             ·simp only [Act.put,List.setIfInBounds_toArray,List.set_cons_zero,List.set_cons_succ,i64_w,i32_w];rfl
             refine take_ (i:=13) (N:=some 35) (v:=?_) (a':=?_) #[true,true,true,true,true,true,true,true,true,true,true,true,true,true,false,true,false,false,false,false,false,false,false,false,false,false,false,false,false,false,false,false,false,false,false] rfl rfl (take_ofW HT_.out HW_.out zq21) (fun _ _ _ h=>h) (Or.inl ⟨by rfl,?_⟩) hHeld ?_ ?_;rotate_left
             ·rintro w' ⟨s0,s1,s2,s3⟩
              go_simp;with_reducible rfl
             rotate_left
             ·simp only [Act.put,List.setIfInBounds_toArray,List.set_cons_zero,List.set_cons_succ,i64_w,i32_w];rfl
             refine pure_ (i:=14) (N:=some 36) (v:=?_) (a':=?_) #[true,true,true,true,true,true,true,true,true,true,true,true,true,true,true,true,false,false,false,false,false,false,false,false,false,false,false,false,false,false,false,false,false,false,false] rfl rfl (any_of HT_.out zq21) (fun _ _ _ h=>h) (Or.inl ⟨by rfl,?_⟩) ?_ ?_;rotate_left
             ·intro w';go_simp;with_reducible rfl
             rotate_left
             ·simp only [Act.put,List.setIfInBounds_toArray,List.set_cons_zero,List.set_cons_succ,i64_w,i32_w];rfl
             refine one_ (i:=16) (N:=some 38) #[true,true,true,true,true,true,true,true,true,true,true,true,true,true,true,true,true,false,false,false,false,false,false,false,false,false,false,false,false,false,false,false,false,false,false] rfl rfl (one_of HT_.out zq21) (by decide) (fun K hK=>?_);refine goes_ Try.func50 zq21 rfl #[.slice (some ad112) l1.length c1] (by rfl) rfl rfl zq2 ?_
             with_reducible refine (impl_size_int8.calls _ _ l1 t110 _ ?side1 ?side2 A20.out).mono ?_
             (case side1=>exact zq148);(case side2=>exact HC1.out)
             rintro e w' ⟨rfl,⟨nd,rfl⟩⟩
             refine ⟨_,rfl,?_⟩;refine hK.out _ _ ⟨(blk_cell BK102.out 0).trans rfl,(blk_cell BK102.out 1).trans rfl,(blk_cell BK102.out 2).trans rfl,((HB.out.cell (World.block_lt_of_cell? w _ hw112_0)).trans hw112_0)⟩ (fun hHeld=>?_);clear hK K;refine norm_ (a':=?_) ?_ ?_;rotate_left
             ·show Act.put _ (some 38) _=_
              simp only [Act.put,List.setIfInBounds_toArray,List.set_cons_zero,List.set_cons_succ,i64_w,i32_w];rfl
             refine pure_ (i:=17) (N:=some 39) (v:=?_) (a':=?_) #[true,true,true,true,true,true,true,true,true,true,true,true,true,true,true,true,true,true,false,false,false,false,false,false,false,false,false,false,false,false,false,false,false,false,false] rfl rfl (any_of HT_.out zq21) (fun _ _ _ h=>h) (Or.inl ⟨by rfl,?_⟩) ?_ ?_;rotate_left
             ·intro w';go_simp;with_reducible rfl
             rotate_left
             ·simp only [Act.put,List.setIfInBounds_toArray,List.set_cons_zero,List.set_cons_succ,i64_w,i32_w];rfl
             refine one_ (i:=18) (N:=some 40) #[true,true,true,true,true,true,true,true,true,true,true,true,true,true,true,true,true,true,true,false,false,false,false,false,false,false,false,false,false,false,false,false,false,false,false] rfl rfl (one_of HT_.out zq21) (by decide) (fun K hK=>?_);refine goes_ Try.func48 zq21 rfl #[.int .i64 (wrap64 ((rd_T51 l2 x12_1).f1)),.int .i64 0,.int .i64 (wrap64 (t110 - 1))] (by rfl) rfl rfl zq2 ?_
             with_reducible refine (impl_within.calls (wrap64 ((rd_T51 l2 x12_1).f1)) 0 (wrap64 (t110 - 1)) true _ A21.out).mono ?_
             rintro e w' ⟨rfl,⟨nd,rfl⟩⟩
             refine ⟨_,rfl,?_⟩;refine hK.out _ _ ⟨(blk_cell BK102.out 0).trans rfl,(blk_cell BK102.out 1).trans rfl,(blk_cell BK102.out 2).trans rfl,((HB.out.cell (World.block_lt_of_cell? w _ hw112_0)).trans hw112_0)⟩ (fun hHeld=>?_);clear hK K;refine norm_ (a':=?_) ?_ ?_;rotate_left
             ·show Act.put _ (some 40) _=_
              simp only [Act.put,List.setIfInBounds_toArray,List.set_cons_zero,List.set_cons_succ,i64_w,i32_w];rfl
             refine pure_ (i:=19) (N:=some 41) (v:=?_) (a':=?_) #[true,true,true,true,true,true,true,true,true,true,true,true,true,true,true,true,true,true,true,true,false,false,false,false,false,false,false,false,false,false,false,false,false,false,false] rfl rfl (any_of HT_.out zq21) (fun _ _ _ h=>h) (Or.inl ⟨by rfl,?_⟩) ?_ ?_;rotate_left
             ·intro w';go_simp;with_reducible rfl
             rotate_left
             ·simp only [Act.put,List.setIfInBounds_toArray,List.set_cons_zero,List.set_cons_succ,i64_w,i32_w];rfl
             refine pure_ (i:=20) (N:=some 42) (v:=?_) (a':=?_) #[true,true,true,true,true,true,true,true,true,true,true,true,true,true,true,true,true,true,true,true,true,false,false,false,false,false,false,false,false,false,false,false,false,false,false] rfl rfl (any_of HT_.out zq21) (fun _ _ _ h=>h) (Or.inl ⟨by rfl,?_⟩) ?_ ?_;rotate_left
             ·intro w';go_simp;with_reducible rfl
             rotate_left
             ·simp only [Act.put,List.setIfInBounds_toArray,List.set_cons_zero,List.set_cons_succ,i64_w,i32_w];rfl
             refine pure_ (i:=21) (N:=some 43) (v:=?_) (a':=?_) #[true,true,true,true,true,true,true,true,true,true,true,true,true,true,true,true,true,true,true,true,true,true,false,false,false,false,false,false,false,false,false,false,false,false,false] rfl rfl (any_of HT_.out zq21) (fun _ _ _ h=>h) (Or.inl ⟨by rfl,?_⟩) ?_ ?_;rotate_left
             ·intro w';go_simp;with_reducible rfl
             rotate_left
             ·simp only [Act.put,List.setIfInBounds_toArray,List.set_cons_zero,List.set_cons_succ,i64_w,i32_w];rfl
             refine pure_ (i:=22) (N:=some 44) (v:=?_) (a':=?_) #[true,true,true,true,true,true,true,true,true,true,true,true,true,true,true,true,true,true,true,true,true,true,true,false,false,false,false,false,false,false,false,false,false,false,false] rfl rfl (any_of HT_.out zq21) (fun _ _ _ h=>h) (Or.inl ⟨by rfl,?_⟩) ?_ ?_;rotate_left
             ·intro w';go_simp;with_reducible rfl
             rotate_left
             ·simp only [Act.put,List.setIfInBounds_toArray,List.set_cons_zero,List.set_cons_succ,i64_w,i32_w];rfl
             refine pure_ (i:=23) (N:=some 45) (v:=?_) (a':=?_) #[true,true,true,true,true,true,true,true,true,true,true,true,true,true,true,true,true,true,true,true,true,true,true,true,false,false,false,false,false,false,false,false,false,false,false] rfl rfl (any_of HT_.out zq21) (fun _ _ _ h=>h) (Or.inl ⟨by rfl,?_⟩) ?_ ?_;rotate_left
             ·intro w';go_simp;with_reducible rfl
             rotate_left
             ·simp only [Act.put,List.setIfInBounds_toArray,List.set_cons_zero,List.set_cons_succ,i64_w,i32_w];rfl
             refine take_ (i:=24) (N:=some 46) (v:=?_) (a':=?_) #[true,true,true,true,true,true,true,true,true,true,true,true,true,true,true,true,true,true,true,true,true,true,true,true,true,false,false,false,false,false,false,false,false,false,false] rfl rfl (take_ofW HT_.out HW_.out zq21) (fun _ _ _ h=>h) (Or.inl ⟨by rfl,?_⟩) hHeld ?_ ?_;rotate_left
             ·rintro w' ⟨s0,s1,s2,s3⟩
              go_simp;with_reducible rfl
             rotate_left
             ·simp only [Act.put,List.setIfInBounds_toArray,List.set_cons_zero,List.set_cons_succ,i64_w,i32_w];rfl
             refine pure_ (i:=25) (N:=some 47) (v:=?_) (a':=?_) #[true,true,true,true,true,true,true,true,true,true,true,true,true,true,true,true,true,true,true,true,true,true,true,true,true,true,false,false,false,false,false,false,false,false,false] rfl rfl (any_of HT_.out zq21) (fun _ _ _ h=>h) (Or.inl ⟨by rfl,?_⟩) ?_ ?_;rotate_left
             ·intro w';go_simp;with_reducible rfl
             rotate_left
             ·simp only [Act.put,List.setIfInBounds_toArray,List.set_cons_zero,List.set_cons_succ,i64_w,i32_w];rfl
             refine take_ (i:=26) (N:=some 48) (v:=?_) (a':=?_) #[true,true,true,true,true,true,true,true,true,true,true,true,true,true,true,true,true,true,true,true,true,true,true,true,true,true,true,false,false,false,false,false,false,false,false] rfl rfl (take_ofW HT_.out HW_.out zq21) (fun _ _ _ h=>h) (Or.inl ⟨by rfl,?_⟩) hHeld ?_ ?_;rotate_left
             ·rintro w' ⟨s0,s1,s2,s3⟩
              go_simp;with_reducible rfl
             rotate_left
             ·simp only [Act.put,List.setIfInBounds_toArray,List.set_cons_zero,List.set_cons_succ,i64_w,i32_w];rfl
             refine pure_ (i:=27) (N:=some 49) (v:=?_) (a':=?_) #[true,true,true,true,true,true,true,true,true,true,true,true,true,true,true,true,true,true,true,true,true,true,true,true,true,true,true,true,false,false,false,false,false,false,false] rfl rfl (any_of HT_.out zq21) (fun _ _ _ h=>h) (Or.inl ⟨by rfl,?_⟩) ?_ ?_;rotate_left
             ·intro w';go_simp;with_reducible rfl
             rotate_left
             ·simp only [Act.put,List.setIfInBounds_toArray,List.set_cons_zero,List.set_cons_succ,i64_w,i32_w];rfl
             refine pure_ (i:=28) (N:=some 50) (v:=?_) (a':=?_) #[true,true,true,true,true,true,true,true,true,true,true,true,true,true,true,true,true,true,true,true,true,true,true,true,true,true,true,true,true,false,false,false,false,false,false] rfl rfl (any_of HT_.out zq21) (fun _ _ _ h=>h) (Or.inl ⟨by rfl,?_⟩) ?_ ?_;rotate_left
             ·intro w';go_simp;with_reducible rfl
             rotate_left
             ·simp only [Act.put,List.setIfInBounds_toArray,List.set_cons_zero,List.set_cons_succ,i64_w,i32_w];rfl
             refine pure_ (i:=29) (N:=some 51) (v:=?_) (a':=?_) #[true,true,true,true,true,true,true,true,true,true,true,true,true,true,true,true,true,true,true,true,true,true,true,true,true,true,true,true,true,true,false,false,false,false,false] rfl rfl (any_of HT_.out zq21) (fun _ _ _ h=>h) (Or.inl ⟨by rfl,?_⟩) ?_ ?_;rotate_left
             ·intro w';go_simp;with_reducible rfl
             rotate_left
             ·simp only [Act.put,List.setIfInBounds_toArray,List.set_cons_zero,List.set_cons_succ,i64_w,i32_w];rfl
             refine pure_ (i:=30) (N:=some 52) (v:=undef) (a':=?_) #[true,true,true,true,true,true,true,true,true,true,true,true,true,true,true,true,true,true,true,true,true,true,true,true,true,true,true,true,true,true,true,false,false,false,false] rfl rfl (any_of HT_.out zq21) (fun _ _ _ h=>h) (Or.inr ⟨by rfl,rfl⟩) ?_ ?_;rotate_left
             ·simp only [Act.put,List.setIfInBounds_toArray,List.set_cons_zero,List.set_cons_succ,i64_w,i32_w];rfl
             refine pure_ (i:=31) (N:=some 53) (v:=undef) (a':=?_) #[true,true,true,true,true,true,true,true,true,true,true,true,true,true,true,true,true,true,true,true,true,true,true,true,true,true,true,true,true,true,true,true,false,false,false] rfl rfl (any_of HT_.out zq21) (fun _ _ _ h=>h) (Or.inr ⟨by rfl,rfl⟩) ?_ ?_;rotate_left
             ·simp only [Act.put,List.setIfInBounds_toArray,List.set_cons_zero,List.set_cons_succ,i64_w,i32_w];rfl
             refine pure_ (i:=32) (N:=some 54) (v:=undef) (a':=?_) #[true,true,true,true,true,true,true,true,true,true,true,true,true,true,true,true,true,true,true,true,true,true,true,true,true,true,true,true,true,true,true,true,true,false,false] rfl rfl (any_of HT_.out zq21) (fun _ _ _ h=>h) (Or.inr ⟨by rfl,rfl⟩) ?_ ?_;rotate_left
             ·simp only [Act.put,List.setIfInBounds_toArray,List.set_cons_zero,List.set_cons_succ,i64_w,i32_w];rfl
             refine pure_ (i:=33) (N:=some 55) (v:=undef) (a':=?_) #[true,true,true,true,true,true,true,true,true,true,true,true,true,true,true,true,true,true,true,true,true,true,true,true,true,true,true,true,true,true,true,true,true,true,false] rfl rfl (any_of HT_.out zq21) (fun _ _ _ h=>h) (Or.inr ⟨by rfl,rfl⟩) ?_ ?_;rotate_left
             ·simp only [Act.put,List.setIfInBounds_toArray,List.set_cons_zero,List.set_cons_succ,i64_w,i32_w];rfl
             refine pure_ (i:=34) (N:=some 56) (v:=?_) (a':=?_) #[true,true,true,true,true,true,true,true,true,true,true,true,true,true,true,true,true,true,true,true,true,true,true,true,true,true,true,true,true,true,true,true,true,true,true] rfl rfl (any_of HT_.out zq21) (fun _ _ _ h=>h) (Or.inl ⟨by rfl,?_⟩) ?_ ?_;rotate_left
             ·intro w';go_simp;with_reducible rfl
             rotate_left
             ·simp only [Act.put,List.setIfInBounds_toArray,List.set_cons_zero,List.set_cons_succ,i64_w,i32_w];rfl
             refine done_ (done_of HT_.out zq21) ?_;(try go_wp2)
             go_ret
             exact ⟨by first|rfl|(simp [errW_none,errW_some,IntKind.wrap_i64,wrap64];done)|(simp [errW_none,errW_some] <;> rfl)|(simp [*,errW_none,errW_some] <;> rfl),by repeat (first|(with_reducible first|exact HB.out|apply below_alloc|apply pw_below_drewN|apply below_drew1|refine below_set ?_ GE102.out)|exact HB.out)⟩
            ·rw [if_neg c25] at H;have c25b0:decide ((rd l1 ((rd_T51 l2 x12_1).f1)) < 0)=false:=decide_eq_false c25;clear c25;replace H:=Option.bind_eq_some_iff.mp H;obtain ⟨t113,A320,H⟩:=H;replace H:(if t113=true then (impl_areFaults.l0 k1 l0 l1 l2 l2 (l2.length:Int) (wrap64 (x12_1 + 1))) else (some false))=some r:=H;have A32:=am A320;clear A320
             by_cases c33:t113=true
             ·subst c33
              have H1:(impl_areFaults.l0 k1 l0 l1 l2 l2 (l2.length:Int) (wrap64 (x12_1 + 1)))=some r:=by rw [if_pos rfl] at H;exact H
              clear H;have H:=H1;clear H1;have H':=am H;clear H;have p101:0≤(x12_1:Int):=of_decide_eq_true zq1;have q101:x12_1 < (l2.length:Int):=of_decide_eq_true zq1;obtain ⟨ad101,e101,hx101_0,hx101_1,hx101_2⟩:=at_T51 HR2.out x12_1 p101 q101;cases e101;replace hx101_0:=(HB.out.cell (World.block_lt_of_cell? w _ hx101_0)).trans hx101_0;replace hx101_1:=(HB.out.cell (World.block_lt_of_cell? w _ hx101_1)).trans hx101_1;replace hx101_2:=(HB.out.cell (World.block_lt_of_cell? w _ hx101_2)).trans hx101_2;replace p101:=eq_true p101;replace q101:=eq_true q101
              try go_wp2_with (first|((with_reducible refine gate_dst (N:=8) rfl ?_);refine box_event ?hg (N:=8) ?hd (cs:=#[.int .i8 0,.int .i8 0,.int .i8 0]) (t:=51) ?hr ?_;(case hd=>rfl);(case hg=>rfl);(case hr=>exact zq15);intro gb102 hg w34 hbox hb;have n0_:=am (below_step zq0 hb);have n1_:=am (hbox);have n2_:=am ((by rw [hg];exact (below_size zq0):w.heap.size≤gb102));have n3_:=am ((by rw [hg];exact (below_size zq0):w.heap.size≤gb102));clear HB;have HB:=n0_;have BK102:=n1_;have GW102:=n2_;have GE102:=n3_;clear n0_ n1_ n2_ n3_;clear hb hbox hg;have hcz35_0:w34.cell? ⟨gb102,0,none⟩=some (.int .i8 0):=(blk_cell BK102.out 0).trans rfl;have hcz35_1:w34.cell? ⟨gb102,1,none⟩=some (.int .i8 0):=(blk_cell BK102.out 1).trans rfl;have hcz35_2:w34.cell? ⟨gb102,2,none⟩=some (.int .i8 0):=(blk_cell BK102.out 2).trans rfl;have hfz35_0:=blk_frozen BK102.out 0;have hfz35_1:=blk_frozen BK102.out 1;have hfz35_2:=blk_frozen BK102.out 2)|((with_reducible refine gate_store (t:=51) (p:=8) rfl ?_);refine store_event (t:=51) (p:=8) (v:=?vo_w36) (w1:=(((w34.setCell ⟨gb102,0,none⟩ (.int .i8 ((rd_T51 l2 x12_1).f0))).setCell ⟨gb102,1,none⟩ (.int .i8 ((rd_T51 l2 x12_1).f1))).setCell ⟨gb102,2,none⟩ (.int .i8 ((rd_T51 l2 x12_1).f2)))) ?hg ?ho ?hn ?hr ?_;(case ho=>rfl);(case hg=>rfl);(case hn=>rfl);(case hr=>exact zq15);intro w36 hw;have n0_:Aside0 (w36.heap[gb102]?=some (.cells #[.int .i8 ((rd_T51 l2 x12_1).f0),.int .i8 ((rd_T51 l2 x12_1).f1),.int .i8 ((rd_T51 l2 x12_1).f2)] 51 (0,0))):=⟨zq16⟩;have n1_:Aside0 (Below w.heap.size w w36):=⟨(by rw [hw];exact zq22)⟩;clear hw;clear BK102;clear HB;have BK102:=n0_;have HB:=n1_;clear n0_ n1_;have q37:(x12_1:Int)≤((l2.length:Int):Int):=of_decide_eq_true zq1;obtain ⟨i037,hi037,_,hsz37,_⟩:=info_parts info51;have hroom37:l2.length≤c2:=HC2.out;have hC37:Kd.C k51 _ (some ad101) l2.length l2:=HR2.out;have hcut37:=cut_to (P:=Try.prog) 29 51 .i64 Try.underlying29 hi037 (some ad101) l2.length c2 x12_1 (of_decide_eq_true zq1) q37 hroom37;have hr37:=Kd.C_take (m:=(x12_1:Int).toNat) hC37 (by omega);have hy37:y103.length=(x12_1:Int).toNat:=zq128;rw [← Ny103.out] at hr37;rw [← hy37] at hcut37;have HR106:=am hr37;have HC106:=am (show y103.length≤c2 from by omega);clear hr37 hC37 hroom37 hi037 hsz37;have KY37:=am hy37;clear hy37;replace q37:=eq_true q37)|((with_reducible refine gate_callee (f:=57) rfl ?_);refine goesL_ (some 21) rfl rfl Try.func57 zq21 rfl #[.slice (some ad101) y103.length c2,.func (.func 58) #[] #[.pointer (some ⟨gb102,0,none⟩)]] rfl zq2 ?_;(with_reducible refine (slices_ContainsFunc_Fault_Fault__impl_areFaults_1.calls _ _ y103 ((rd_T51 l2 x12_1).f0) ((rd_T51 l2 x12_1).f1) ((rd_T51 l2 x12_1).f2) gb102 false _ ?side1 ?side2 ?side3 A9.out).mono ?_);(case side1=>exact zq57);(case side2=>exact HC106.out);(case side3=>exact zq143);rintro e w38 ⟨rfl,hb⟩;refine ⟨_,rfl,?_⟩;have n0_:=am (blk_below (g:=gb102) (o:=.cells #[.int .i8 ((rd_T51 l2 x12_1).f0),.int .i8 ((rd_T51 l2 x12_1).f1),.int .i8 ((rd_T51 l2 x12_1).f2)] 51 (0,0)) zq143 hb);have n1_:=am (below_step zq22 hb);clear BK102;clear HB;have BK102:=n0_;have HB:=n1_;clear n0_ n1_;(try clear hb);(try clear hb2);(try clear hk);(try clear hi)))
              have n0_:=am (blk_drew BK102.out);have n1_:=am (below_drew1 HB.out);clear BK102;clear HB;have BK102:=n0_;have HB:=n1_;clear n0_ n1_;have p112:0≤(((rd_T51 l2 x12_1).f1):Int):=of_decide_eq_true zq1;have q112:((rd_T51 l2 x12_1).f1) < (l1.length:Int):=of_decide_eq_true zq1;obtain ⟨ad112,e112,hx112_0⟩:=Kd.at_int HR1.out ((rd_T51 l2 x12_1).f1) p112 q112;have hw112_0:=hx112_0;cases e112;replace hx112_0:=(HB.out.cell (World.block_lt_of_cell? w _ hx112_0)).trans hx112_0;replace p112:=eq_true p112;replace q112:=eq_true q112;refine start_ (n:=35) (S:=fun w'=>w'.cell? ⟨gb102,0,none⟩=some (.int .i8 ((rd_T51 l2 x12_1).f0))∧w'.cell? ⟨gb102,1,none⟩=some (.int .i8 ((rd_T51 l2 x12_1).f1))∧w'.cell? ⟨gb102,2,none⟩=some (.int .i8 ((rd_T51 l2 x12_1).f2))∧w'.cell? (ad112.add (((rd_T51 l2 x12_1).f1)).toNat)=some (.int .i8 (rd l1 ((rd_T51 l2 x12_1).f1)))) (ds:=[]) #[false,false,false,false,false,false,false,false,false,false,false,false,false,false,false,false,false,false,false,false,false,false,false,false,false,false,false,false,false,false,false,false,false,false,false] zq21 rfl rfl ⟨(blk_cell BK102.out 0).trans rfl,(blk_cell BK102.out 1).trans rfl,(blk_cell BK102.out 2).trans rfl,((HB.out.cell (World.block_lt_of_cell? w _ hw112_0)).trans hw112_0)⟩ (fun hHeld=>?_);refine with_tabW impl_areFaults.tab5 impl_areFaults.bits5 (fun HT_ HW_=>?_);generalize w38.drew=w39 at BK102 HB hx112_0 hHeld ⊢;refine pure_ (i:=0) (N:=some 22) (v:=?_) (a':=?_) #[true,false,false,false,false,false,false,false,false,false,false,false,false,false,false,false,false,false,false,false,false,false,false,false,false,false,false,false,false,false,false,false,false,false,false] rfl rfl (any_of HT_.out zq21) (fun _ _ _ h=>h) (Or.inl ⟨by rfl,?_⟩) ?_ ?_;rotate_left
              ·intro w';go_simp;with_reducible rfl
              rotate_left
              ·simp only [Act.put,List.setIfInBounds_toArray,List.set_cons_zero,List.set_cons_succ,i64_w,i32_w];rfl
              refine pure_ (i:=1) (N:=some 23) (v:=?_) (a':=?_) #[true,true,false,false,false,false,false,false,false,false,false,false,false,false,false,false,false,false,false,false,false,false,false,false,false,false,false,false,false,false,false,false,false,false,false] rfl rfl (any_of HT_.out zq21) (fun _ _ _ h=>h) (Or.inl ⟨by rfl,?_⟩) ?_ ?_;rotate_left
              ·intro w';go_simp;with_reducible rfl
              rotate_left
              ·simp only [Act.put,List.setIfInBounds_toArray,List.set_cons_zero,List.set_cons_succ,i64_w,i32_w];rfl
              refine pure_ (i:=2) (N:=some 24) (v:=?_) (a':=?_) #[true,true,true,false,false,false,false,false,false,false,false,false,false,false,false,false,false,false,false,false,false,false,false,false,false,false,false,false,false,false,false,false,false,false,false] rfl rfl (any_of HT_.out zq21) (fun _ _ _ h=>h) (Or.inl ⟨by rfl,?_⟩) ?_ ?_;rotate_left
              ·intro w';go_simp;with_reducible rfl
              rotate_left
              ·simp only [Act.put,List.setIfInBounds_toArray,List.set_cons_zero,List.set_cons_succ,i64_w,i32_w];rfl
              refine pure_ (i:=5) (N:=some 27) (v:=?_) (a':=?_) #[true,true,true,false,false,true,false,false,false,false,false,false,false,false,false,false,false,false,false,false,false,false,false,false,false,false,false,false,false,false,false,false,false,false,false] rfl rfl (any_of HT_.out zq21) (fun _ _ _ h=>h) (Or.inl ⟨by rfl,?_⟩) ?_ ?_;rotate_left
              ·intro w';go_simp;with_reducible rfl
              rotate_left
              ·simp only [Act.put,List.setIfInBounds_toArray,List.set_cons_zero,List.set_cons_succ,i64_w,i32_w];rfl
              refine take_ (i:=3) (N:=some 25) (v:=?_) (a':=?_) #[true,true,true,true,false,true,false,false,false,false,false,false,false,false,false,false,false,false,false,false,false,false,false,false,false,false,false,false,false,false,false,false,false,false,false] rfl rfl (take_ofW HT_.out HW_.out zq21) (fun _ _ _ h=>h) (Or.inl ⟨by rfl,?_⟩) hHeld ?_ ?_;rotate_left
              ·rintro w' ⟨s0,s1,s2,s3⟩
               go_simp;with_reducible rfl
              rotate_left
              ·simp only [Act.put,List.setIfInBounds_toArray,List.set_cons_zero,List.set_cons_succ,i64_w,i32_w];rfl
              refine pure_ (i:=4) (N:=some 26) (v:=?_) (a':=?_) #[true,true,true,true,true,true,false,false,false,false,false,false,false,false,false,false,false,false,false,false,false,false,false,false,false,false,false,false,false,false,false,false,false,false,false] rfl rfl (any_of HT_.out zq21) (fun _ _ _ h=>h) (Or.inl ⟨by rfl,?_⟩) ?_ ?_;rotate_left
              ·intro w';go_simp;with_reducible rfl
              rotate_left
              ·simp only [Act.put,List.setIfInBounds_toArray,List.set_cons_zero,List.set_cons_succ,i64_w,i32_w];rfl
              refine one_ (i:=6) (N:=some 28) #[true,true,true,true,true,true,true,false,false,false,false,false,false,false,false,false,false,false,false,false,false,false,false,false,false,false,false,false,false,false,false,false,false,false,false] rfl rfl (one_of HT_.out zq21) (by decide) (fun K hK=>?_);refine goes_ Try.func54 zq21 rfl #[.slice A0 l0.length c0] (by rfl) rfl rfl zq2 ?_
              with_reducible refine (impl_size_Ship.calls _ _ l0 t108 _ ?side1 ?side2 A17.out).mono ?_
              (case side1=>exact zq17);(case side2=>exact HC0.out)
              rintro e w' ⟨rfl,⟨nd,rfl⟩⟩
              refine ⟨_,rfl,?_⟩;refine hK.out _ _ ⟨(blk_cell BK102.out 0).trans rfl,(blk_cell BK102.out 1).trans rfl,(blk_cell BK102.out 2).trans rfl,((HB.out.cell (World.block_lt_of_cell? w _ hw112_0)).trans hw112_0)⟩ (fun hHeld=>?_);clear hK K;refine norm_ (a':=?_) ?_ ?_;rotate_left
              ·show Act.put _ (some 28) _=_
               simp only [Act.put,List.setIfInBounds_toArray,List.set_cons_zero,List.set_cons_succ,i64_w,i32_w];rfl
              refine pure_ (i:=7) (N:=some 29) (v:=?_) (a':=?_) #[true,true,true,true,true,true,true,true,false,false,false,false,false,false,false,false,false,false,false,false,false,false,false,false,false,false,false,false,false,false,false,false,false,false,false] rfl rfl (any_of HT_.out zq21) (fun _ _ _ h=>h) (Or.inl ⟨by rfl,?_⟩) ?_ ?_;rotate_left
              ·intro w';go_simp;with_reducible rfl
              rotate_left
              ·simp only [Act.put,List.setIfInBounds_toArray,List.set_cons_zero,List.set_cons_succ,i64_w,i32_w];rfl
              refine one_ (i:=8) (N:=some 30) #[true,true,true,true,true,true,true,true,true,false,false,false,false,false,false,false,false,false,false,false,false,false,false,false,false,false,false,false,false,false,false,false,false,false,false] rfl rfl (one_of HT_.out zq21) (by decide) (fun K hK=>?_);refine goes_ Try.func48 zq21 rfl #[.int .i64 (wrap64 ((rd_T51 l2 x12_1).f0)),.int .i64 1,.int .i64 (wrap64 (t108 - 1))] (by rfl) rfl rfl zq2 ?_
              with_reducible refine (impl_within.calls (wrap64 ((rd_T51 l2 x12_1).f0)) 1 (wrap64 (t108 - 1)) true _ A18.out).mono ?_
              rintro e w' ⟨rfl,⟨nd,rfl⟩⟩
              refine ⟨_,rfl,?_⟩;refine hK.out _ _ ⟨(blk_cell BK102.out 0).trans rfl,(blk_cell BK102.out 1).trans rfl,(blk_cell BK102.out 2).trans rfl,((HB.out.cell (World.block_lt_of_cell? w _ hw112_0)).trans hw112_0)⟩ (fun hHeld=>?_);clear hK K;refine norm_ (a':=?_) ?_ ?_;rotate_left
              ·show Act.put _ (some 30) _=_
               simp only [Act.put,List.setIfInBounds_toArray,List.set_cons_zero,List.set_cons_succ,i64_w,i32_w];rfl
              refine pure_ (i:=9) (N:=some 31) (v:=?_) (a':=?_) #[true,true,true,true,true,true,true,true,true,true,false,false,false,false,false,false,false,false,false,false,false,false,false,false,false,false,false,false,false,false,false,false,false,false,false] rfl rfl (any_of HT_.out zq21) (fun _ _ _ h=>h) (Or.inl ⟨by rfl,?_⟩) ?_ ?_;rotate_left
              ·intro w';go_simp;with_reducible rfl
              rotate_left
              ·simp only [Act.put,List.setIfInBounds_toArray,List.set_cons_zero,List.set_cons_succ,i64_w,i32_w];rfl
              refine pure_ (i:=10) (N:=some 32) (v:=?_) (a':=?_) #[true,true,true,true,true,true,true,true,true,true,true,false,false,false,false,false,false,false,false,false,false,false,false,false,false,false,false,false,false,false,false,false,false,false,false] rfl rfl (any_of HT_.out zq21) (fun _ _ _ h=>h) (Or.inl ⟨by rfl,?_⟩) ?_ ?_;rotate_left
              ·intro w';go_simp;with_reducible rfl
              rotate_left
              ·simp only [Act.put,List.setIfInBounds_toArray,List.set_cons_zero,List.set_cons_succ,i64_w,i32_w];rfl
              refine pure_ (i:=11) (N:=some 33) (v:=?_) (a':=?_) #[true,true,true,true,true,true,true,true,true,true,true,true,false,false,false,false,false,false,false,false,false,false,false,false,false,false,false,false,false,false,false,false,false,false,false] rfl rfl (any_of HT_.out zq21) (fun _ _ _ h=>h) (Or.inl ⟨by rfl,?_⟩) ?_ ?_;rotate_left
              ·intro w';go_simp;with_reducible rfl
              rotate_left
              ·simp only [Act.put,List.setIfInBounds_toArray,List.set_cons_zero,List.set_cons_succ,i64_w,i32_w];rfl
              refine pure_ (i:=12) (N:=some 34) (v:=?_) (a':=?_) #[true,true,true,true,true,true,true,true,true,true,true,true,true,false,false,false,false,false,false,false,false,false,false,false,false,false,false,false,false,false,false,false,false,false,false] rfl rfl (any_of HT_.out zq21) (fun _ _ _ h=>h) (Or.inl ⟨by rfl,?_⟩) ?_ ?_;rotate_left
              ·intro w';go_simp;with_reducible rfl
              rotate_left
              ·simp only [Act.put,List.setIfInBounds_toArray,List.set_cons_zero,List.set_cons_succ,i64_w,i32_w];rfl
              refine pure_ (i:=15) (N:=some 37) (v:=?_) (a':=?_) #[true,true,true,true,true,true,true,true,true,true,true,true,true,false,false,true,false,false,false,false,false,false,false,false,false,false,false,false,false,false,false,false,false,false,false] rfl rfl (any_of HT_.out zq21) (fun _ _ _ h=>h) (Or.inl ⟨by rfl,?_⟩) ?_ ?_;rotate_left
              ·intro w';go_simp;with_reducible rfl
              rotate_left
              ·simp only [Act.put,List.setIfInBounds_toArray,List.set_cons_zero,List.set_cons_succ,i64_w,i32_w];rfl
              refine take_ (i:=13) (N:=some 35) (v:=?_) (a':=?_) #[true,true,true,true,true,true,true,true,true,true,true,true,true,true,false,true,false,false,false,false,false,false,false,false,false,false,false,false,false,false,false,false,false,false,false] rfl rfl (take_ofW HT_.out HW_.out zq21) (fun _ _ _ h=>h) (Or.inl ⟨by rfl,?_⟩) hHeld ?_ ?_;rotate_left
              ·rintro w' ⟨s0,s1,s2,s3⟩
               go_simp;with_reducible rfl
              rotate_left
              ·simp only [Act.put,List.setIfInBounds_toArray,List.set_cons_zero,List.set_cons_succ,i64_w,i32_w];rfl
              refine pure_ (i:=14) (N:=some 36) (v:=?_) (a':=?_) #[true,true,true,true,true,true,true,true,true,true,true,true,true,true,true,true,false,false,false,false,false,false,false,false,false,false,false,false,false,false,false,false,false,false,false] rfl rfl (any_of HT_.out zq21) (fun _ _ _ h=>h) (Or.inl ⟨by rfl,?_⟩) ?_ ?_;rotate_left
              ·intro w';go_simp;with_reducible rfl
              rotate_left
              ·simp only [Act.put,List.setIfInBounds_toArray,List.set_cons_zero,List.set_cons_succ,i64_w,i32_w];rfl
              refine one_ (i:=16) (N:=some 38) #[true,true,true,true,true,true,true,true,true,true,true,true,true,true,true,true,true,false,false,false,false,false,false,false,false,false,false,false,false,false,false,false,false,false,false] rfl rfl (one_of HT_.out zq21) (by decide) (fun K hK=>?_);refine goes_ Try.func50 zq21 rfl #[.slice (some ad112) l1.length c1] (by rfl) rfl rfl zq2 ?_
              with_reducible refine (impl_size_int8.calls _ _ l1 t110 _ ?side1 ?side2 A20.out).mono ?_
              (case side1=>exact zq148);(case side2=>exact HC1.out)
              rintro e w' ⟨rfl,⟨nd,rfl⟩⟩
              refine ⟨_,rfl,?_⟩;refine hK.out _ _ ⟨(blk_cell BK102.out 0).trans rfl,(blk_cell BK102.out 1).trans rfl,(blk_cell BK102.out 2).trans rfl,((HB.out.cell (World.block_lt_of_cell? w _ hw112_0)).trans hw112_0)⟩ (fun hHeld=>?_);clear hK K;refine norm_ (a':=?_) ?_ ?_;rotate_left
              ·show Act.put _ (some 38) _=_
               simp only [Act.put,List.setIfInBounds_toArray,List.set_cons_zero,List.set_cons_succ,i64_w,i32_w];rfl
              refine pure_ (i:=17) (N:=some 39) (v:=?_) (a':=?_) #[true,true,true,true,true,true,true,true,true,true,true,true,true,true,true,true,true,true,false,false,false,false,false,false,false,false,false,false,false,false,false,false,false,false,false] rfl rfl (any_of HT_.out zq21) (fun _ _ _ h=>h) (Or.inl ⟨by rfl,?_⟩) ?_ ?_;rotate_left
              ·intro w';go_simp;with_reducible rfl
              rotate_left
              ·simp only [Act.put,List.setIfInBounds_toArray,List.set_cons_zero,List.set_cons_succ,i64_w,i32_w];rfl
              refine one_ (i:=18) (N:=some 40) #[true,true,true,true,true,true,true,true,true,true,true,true,true,true,true,true,true,true,true,false,false,false,false,false,false,false,false,false,false,false,false,false,false,false,false] rfl rfl (one_of HT_.out zq21) (by decide) (fun K hK=>?_);refine goes_ Try.func48 zq21 rfl #[.int .i64 (wrap64 ((rd_T51 l2 x12_1).f1)),.int .i64 0,.int .i64 (wrap64 (t110 - 1))] (by rfl) rfl rfl zq2 ?_
              with_reducible refine (impl_within.calls (wrap64 ((rd_T51 l2 x12_1).f1)) 0 (wrap64 (t110 - 1)) true _ A21.out).mono ?_
              rintro e w' ⟨rfl,⟨nd,rfl⟩⟩
              refine ⟨_,rfl,?_⟩;refine hK.out _ _ ⟨(blk_cell BK102.out 0).trans rfl,(blk_cell BK102.out 1).trans rfl,(blk_cell BK102.out 2).trans rfl,((HB.out.cell (World.block_lt_of_cell? w _ hw112_0)).trans hw112_0)⟩ (fun hHeld=>?_);clear hK K;refine norm_ (a':=?_) ?_ ?_;rotate_left
              ·show Act.put _ (some 40) _=_
               simp only [Act.put,List.setIfInBounds_toArray,List.set_cons_zero,List.set_cons_succ,i64_w,i32_w];rfl
              refine pure_ (i:=19) (N:=some 41) (v:=?_) (a':=?_) #[true,true,true,true,true,true,true,true,true,true,true,true,true,true,true,true,true,true,true,true,false,false,false,false,false,false,false,false,false,false,false,false,false,false,false] rfl rfl (any_of HT_.out zq21) (fun _ _ _ h=>h) (Or.inl ⟨by rfl,?_⟩) ?_ ?_;rotate_left
              ·intro w';go_simp;with_reducible rfl
              rotate_left
              ·simp only [Act.put,List.setIfInBounds_toArray,List.set_cons_zero,List.set_cons_succ,i64_w,i32_w];rfl
              refine pure_ (i:=20) (N:=some 42) (v:=?_) (a':=?_) #[true,true,true,true,true,true,true,true,true,true,true,true,true,true,true,true,true,true,true,true,true,false,false,false,false,false,false,false,false,false,false,false,false,false,false] rfl rfl (any_of HT_.out zq21) (fun _ _ _ h=>h) (Or.inl ⟨by rfl,?_⟩) ?_ ?_;rotate_left
              ·intro w';go_simp;with_reducible rfl
              rotate_left
              ·simp only [Act.put,List.setIfInBounds_toArray,List.set_cons_zero,List.set_cons_succ,i64_w,i32_w];rfl
              refine pure_ (i:=21) (N:=some 43) (v:=?_) (a':=?_) #[true,true,true,true,true,true,true,true,true,true,true,true,true,true,true,true,true,true,true,true,true,true,false,false,false,false,false,false,false,false,false,false,false,false,false] rfl rfl (any_of HT_.out zq21) (fun _ _ _ h=>h) (Or.inl ⟨by rfl,?_⟩) ?_ ?_;rotate_left
              ·intro w';go_simp;with_reducible rfl
              rotate_left
              ·simp only [Act.put,List.setIfInBounds_toArray,List.set_cons_zero,List.set_cons_succ,i64_w,i32_w];rfl
              refine pure_ (i:=22) (N:=some 44) (v:=?_) (a':=?_) #[true,true,true,true,true,true,true,true,true,true,true,true,true,true,true,true,true,true,true,true,true,true,true,false,false,false,false,false,false,false,false,false,false,false,false] rfl rfl (any_of HT_.out zq21) (fun _ _ _ h=>h) (Or.inl ⟨by rfl,?_⟩) ?_ ?_;rotate_left
              ·intro w';go_simp;with_reducible rfl
              rotate_left
              ·simp only [Act.put,List.setIfInBounds_toArray,List.set_cons_zero,List.set_cons_succ,i64_w,i32_w];rfl
              refine pure_ (i:=23) (N:=some 45) (v:=?_) (a':=?_) #[true,true,true,true,true,true,true,true,true,true,true,true,true,true,true,true,true,true,true,true,true,true,true,true,false,false,false,false,false,false,false,false,false,false,false] rfl rfl (any_of HT_.out zq21) (fun _ _ _ h=>h) (Or.inl ⟨by rfl,?_⟩) ?_ ?_;rotate_left
              ·intro w';go_simp;with_reducible rfl
              rotate_left
              ·simp only [Act.put,List.setIfInBounds_toArray,List.set_cons_zero,List.set_cons_succ,i64_w,i32_w];rfl
              refine take_ (i:=24) (N:=some 46) (v:=?_) (a':=?_) #[true,true,true,true,true,true,true,true,true,true,true,true,true,true,true,true,true,true,true,true,true,true,true,true,true,false,false,false,false,false,false,false,false,false,false] rfl rfl (take_ofW HT_.out HW_.out zq21) (fun _ _ _ h=>h) (Or.inl ⟨by rfl,?_⟩) hHeld ?_ ?_;rotate_left
              ·rintro w' ⟨s0,s1,s2,s3⟩
               go_simp;with_reducible rfl
              rotate_left
              ·simp only [Act.put,List.setIfInBounds_toArray,List.set_cons_zero,List.set_cons_succ,i64_w,i32_w];rfl
              refine pure_ (i:=25) (N:=some 47) (v:=?_) (a':=?_) #[true,true,true,true,true,true,true,true,true,true,true,true,true,true,true,true,true,true,true,true,true,true,true,true,true,true,false,false,false,false,false,false,false,false,false] rfl rfl (any_of HT_.out zq21) (fun _ _ _ h=>h) (Or.inl ⟨by rfl,?_⟩) ?_ ?_;rotate_left
              ·intro w';go_simp;with_reducible rfl
              rotate_left
              ·simp only [Act.put,List.setIfInBounds_toArray,List.set_cons_zero,List.set_cons_succ,i64_w,i32_w];rfl
              refine take_ (i:=26) (N:=some 48) (v:=?_) (a':=?_) #[true,true,true,true,true,true,true,true,true,true,true,true,true,true,true,true,true,true,true,true,true,true,true,true,true,true,true,false,false,false,false,false,false,false,false] rfl rfl (take_ofW HT_.out HW_.out zq21) (fun _ _ _ h=>h) (Or.inl ⟨by rfl,?_⟩) hHeld ?_ ?_;rotate_left
              ·rintro w' ⟨s0,s1,s2,s3⟩
               go_simp;with_reducible rfl
              rotate_left
              ·simp only [Act.put,List.setIfInBounds_toArray,List.set_cons_zero,List.set_cons_succ,i64_w,i32_w];rfl
              refine pure_ (i:=27) (N:=some 49) (v:=?_) (a':=?_) #[true,true,true,true,true,true,true,true,true,true,true,true,true,true,true,true,true,true,true,true,true,true,true,true,true,true,true,true,false,false,false,false,false,false,false] rfl rfl (any_of HT_.out zq21) (fun _ _ _ h=>h) (Or.inl ⟨by rfl,?_⟩) ?_ ?_;rotate_left
              ·intro w';go_simp;with_reducible rfl
              rotate_left
              ·simp only [Act.put,List.setIfInBounds_toArray,List.set_cons_zero,List.set_cons_succ,i64_w,i32_w];rfl
              refine pure_ (i:=28) (N:=some 50) (v:=?_) (a':=?_) #[true,true,true,true,true,true,true,true,true,true,true,true,true,true,true,true,true,true,true,true,true,true,true,true,true,true,true,true,true,false,false,false,false,false,false] rfl rfl (any_of HT_.out zq21) (fun _ _ _ h=>h) (Or.inl ⟨by rfl,?_⟩) ?_ ?_;rotate_left
              ·intro w';go_simp;with_reducible rfl
              rotate_left
              ·simp only [Act.put,List.setIfInBounds_toArray,List.set_cons_zero,List.set_cons_succ,i64_w,i32_w];rfl
              refine pure_ (i:=29) (N:=some 51) (v:=?_) (a':=?_) #[true,true,true,true,true,true,true,true,true,true,true,true,true,true,true,true,true,true,true,true,true,true,true,true,true,true,true,true,true,true,false,false,false,false,false] rfl rfl (any_of HT_.out zq21) (fun _ _ _ h=>h) (Or.inl ⟨by rfl,?_⟩) ?_ ?_;rotate_left
              ·intro w';go_simp;with_reducible rfl
              rotate_left
              ·simp only [Act.put,List.setIfInBounds_toArray,List.set_cons_zero,List.set_cons_succ,i64_w,i32_w];rfl
              refine pure_ (i:=30) (N:=some 52) (v:=?_) (a':=?_) #[true,true,true,true,true,true,true,true,true,true,true,true,true,true,true,true,true,true,true,true,true,true,true,true,true,true,true,true,true,true,true,false,false,false,false] rfl rfl (any_of HT_.out zq21) (fun _ _ _ h=>h) (Or.inl ⟨by rfl,?_⟩) ?_ ?_;rotate_left
              ·intro w';go_simp;with_reducible rfl
              rotate_left
              ·simp only [Act.put,List.setIfInBounds_toArray,List.set_cons_zero,List.set_cons_succ,i64_w,i32_w];rfl
              refine take_ (i:=31) (N:=some 53) (v:=?_) (a':=?_) #[true,true,true,true,true,true,true,true,true,true,true,true,true,true,true,true,true,true,true,true,true,true,true,true,true,true,true,true,true,true,true,true,false,false,false] rfl rfl (take_ofW HT_.out HW_.out zq21) (fun _ _ _ h=>h) (Or.inl ⟨by rfl,?_⟩) hHeld ?_ ?_;rotate_left
              ·rintro w' ⟨s0,s1,s2,s3⟩
               go_simp;with_reducible rfl
              rotate_left
              ·simp only [Act.put,List.setIfInBounds_toArray,List.set_cons_zero,List.set_cons_succ,i64_w,i32_w];rfl
              refine one_ (i:=32) (N:=some 54) #[true,true,true,true,true,true,true,true,true,true,true,true,true,true,true,true,true,true,true,true,true,true,true,true,true,true,true,true,true,true,true,true,true,false,false] rfl rfl (one_of HT_.out zq21) (by decide) (fun K hK=>?_);refine goes_ Try.func49 zq21 rfl #[.int .i8 ((rd_T51 l2 x12_1).f2)] (by rfl) rfl rfl zq2 ?_
              with_reducible refine (impl_isKind.calls ((rd_T51 l2 x12_1).f2) true _ A32.out).mono ?_
              rintro e w' ⟨rfl,⟨nd,rfl⟩⟩
              refine ⟨_,rfl,?_⟩;refine hK.out _ _ ⟨(blk_cell BK102.out 0).trans rfl,(blk_cell BK102.out 1).trans rfl,(blk_cell BK102.out 2).trans rfl,((HB.out.cell (World.block_lt_of_cell? w _ hw112_0)).trans hw112_0)⟩ (fun hHeld=>?_);clear hK K;refine norm_ (a':=?_) ?_ ?_;rotate_left
              ·show Act.put _ (some 54) _=_
               simp only [Act.put,List.setIfInBounds_toArray,List.set_cons_zero,List.set_cons_succ,i64_w,i32_w];rfl
              refine pure_ (i:=33) (N:=some 55) (v:=?_) (a':=?_) #[true,true,true,true,true,true,true,true,true,true,true,true,true,true,true,true,true,true,true,true,true,true,true,true,true,true,true,true,true,true,true,true,true,true,false] rfl rfl (any_of HT_.out zq21) (fun _ _ _ h=>h) (Or.inl ⟨by rfl,?_⟩) ?_ ?_;rotate_left
              ·intro w';go_simp;with_reducible rfl
              rotate_left
              ·simp only [Act.put,List.setIfInBounds_toArray,List.set_cons_zero,List.set_cons_succ,i64_w,i32_w];rfl
              refine pure_ (i:=34) (N:=some 56) (v:=?_) (a':=?_) #[true,true,true,true,true,true,true,true,true,true,true,true,true,true,true,true,true,true,true,true,true,true,true,true,true,true,true,true,true,true,true,true,true,true,true] rfl rfl (any_of HT_.out zq21) (fun _ _ _ h=>h) (Or.inl ⟨by rfl,?_⟩) ?_ ?_;rotate_left
              ·intro w';go_simp;with_reducible rfl
              rotate_left
              ·simp only [Act.put,List.setIfInBounds_toArray,List.set_cons_zero,List.set_cons_succ,i64_w,i32_w];rfl
              refine done_ (done_of HT_.out zq21) ?_;(try go_wp2)
              go_roundg k1
              case measure=>have:=HK1.out;omega
              case rel=>exact ⟨(wrap64 (x12_1 + 1)),zq3,H',⟨by have:=HK1.out;omega⟩,⟨by repeat (first|(with_reducible first|exact HB.out|apply below_alloc|apply pw_below_drewN|apply below_drew1|refine below_set ?_ GE102.out)|exact HB.out)⟩⟩
             ·replace c33:=Bool.eq_false_iff.mpr c33;subst c33
              have H1:(some false)=some r:=by rw [if_neg (show ¬ (false=true) by decide)] at H;exact H
              clear H;have H:=H1;clear H1;obtain rfl:=Option.some.inj H;have p101:0≤(x12_1:Int):=of_decide_eq_true zq1;have q101:x12_1 < (l2.length:Int):=of_decide_eq_true zq1;obtain ⟨ad101,e101,hx101_0,hx101_1,hx101_2⟩:=at_T51 HR2.out x12_1 p101 q101;cases e101;replace hx101_0:=(HB.out.cell (World.block_lt_of_cell? w _ hx101_0)).trans hx101_0;replace hx101_1:=(HB.out.cell (World.block_lt_of_cell? w _ hx101_1)).trans hx101_1;replace hx101_2:=(HB.out.cell (World.block_lt_of_cell? w _ hx101_2)).trans hx101_2;replace p101:=eq_true p101;replace q101:=eq_true q101
              try go_wp2_with (first|((with_reducible refine gate_dst (N:=8) rfl ?_);refine box_event ?hg (N:=8) ?hd (cs:=#[.int .i8 0,.int .i8 0,.int .i8 0]) (t:=51) ?hr ?_;(case hd=>rfl);(case hg=>rfl);(case hr=>exact zq15);intro gb102 hg w40 hbox hb;have n0_:=am (below_step zq0 hb);have n1_:=am (hbox);have n2_:=am ((by rw [hg];exact (below_size zq0):w.heap.size≤gb102));have n3_:=am ((by rw [hg];exact (below_size zq0):w.heap.size≤gb102));clear HB;have HB:=n0_;have BK102:=n1_;have GW102:=n2_;have GE102:=n3_;clear n0_ n1_ n2_ n3_;clear hb hbox hg;have hcz41_0:w40.cell? ⟨gb102,0,none⟩=some (.int .i8 0):=(blk_cell BK102.out 0).trans rfl;have hcz41_1:w40.cell? ⟨gb102,1,none⟩=some (.int .i8 0):=(blk_cell BK102.out 1).trans rfl;have hcz41_2:w40.cell? ⟨gb102,2,none⟩=some (.int .i8 0):=(blk_cell BK102.out 2).trans rfl;have hfz41_0:=blk_frozen BK102.out 0;have hfz41_1:=blk_frozen BK102.out 1;have hfz41_2:=blk_frozen BK102.out 2)|((with_reducible refine gate_store (t:=51) (p:=8) rfl ?_);refine store_event (t:=51) (p:=8) (v:=?vo_w42) (w1:=(((w40.setCell ⟨gb102,0,none⟩ (.int .i8 ((rd_T51 l2 x12_1).f0))).setCell ⟨gb102,1,none⟩ (.int .i8 ((rd_T51 l2 x12_1).f1))).setCell ⟨gb102,2,none⟩ (.int .i8 ((rd_T51 l2 x12_1).f2)))) ?hg ?ho ?hn ?hr ?_;(case ho=>rfl);(case hg=>rfl);(case hn=>rfl);(case hr=>exact zq15);intro w42 hw;have n0_:Aside0 (w42.heap[gb102]?=some (.cells #[.int .i8 ((rd_T51 l2 x12_1).f0),.int .i8 ((rd_T51 l2 x12_1).f1),.int .i8 ((rd_T51 l2 x12_1).f2)] 51 (0,0))):=⟨zq16⟩;have n1_:Aside0 (Below w.heap.size w w42):=⟨(by rw [hw];exact zq22)⟩;clear hw;clear BK102;clear HB;have BK102:=n0_;have HB:=n1_;clear n0_ n1_;have q43:(x12_1:Int)≤((l2.length:Int):Int):=of_decide_eq_true zq1;obtain ⟨i043,hi043,_,hsz43,_⟩:=info_parts info51;have hroom43:l2.length≤c2:=HC2.out;have hC43:Kd.C k51 _ (some ad101) l2.length l2:=HR2.out;have hcut43:=cut_to (P:=Try.prog) 29 51 .i64 Try.underlying29 hi043 (some ad101) l2.length c2 x12_1 (of_decide_eq_true zq1) q43 hroom43;have hr43:=Kd.C_take (m:=(x12_1:Int).toNat) hC43 (by omega);have hy43:y103.length=(x12_1:Int).toNat:=zq128;rw [← Ny103.out] at hr43;rw [← hy43] at hcut43;have HR106:=am hr43;have HC106:=am (show y103.length≤c2 from by omega);clear hr43 hC43 hroom43 hi043 hsz43;have KY43:=am hy43;clear hy43;replace q43:=eq_true q43)|((with_reducible refine gate_callee (f:=57) rfl ?_);refine goesL_ (some 21) rfl rfl Try.func57 zq21 rfl #[.slice (some ad101) y103.length c2,.func (.func 58) #[] #[.pointer (some ⟨gb102,0,none⟩)]] rfl zq2 ?_;(with_reducible refine (slices_ContainsFunc_Fault_Fault__impl_areFaults_1.calls _ _ y103 ((rd_T51 l2 x12_1).f0) ((rd_T51 l2 x12_1).f1) ((rd_T51 l2 x12_1).f2) gb102 false _ ?side1 ?side2 ?side3 A9.out).mono ?_);(case side1=>exact zq57);(case side2=>exact HC106.out);(case side3=>exact zq143);rintro e w44 ⟨rfl,hb⟩;refine ⟨_,rfl,?_⟩;have n0_:=am (blk_below (g:=gb102) (o:=.cells #[.int .i8 ((rd_T51 l2 x12_1).f0),.int .i8 ((rd_T51 l2 x12_1).f1),.int .i8 ((rd_T51 l2 x12_1).f2)] 51 (0,0)) zq143 hb);have n1_:=am (below_step zq22 hb);clear BK102;clear HB;have BK102:=n0_;have HB:=n1_;clear n0_ n1_;(try clear hb);(try clear hb2);(try clear hk);(try clear hi)))
              have n0_:=am (blk_drew BK102.out);have n1_:=am (below_drew1 HB.out);clear BK102;clear HB;have BK102:=n0_;have HB:=n1_;clear n0_ n1_;have p112:0≤(((rd_T51 l2 x12_1).f1):Int):=of_decide_eq_true zq1;have q112:((rd_T51 l2 x12_1).f1) < (l1.length:Int):=of_decide_eq_true zq1;obtain ⟨ad112,e112,hx112_0⟩:=Kd.at_int HR1.out ((rd_T51 l2 x12_1).f1) p112 q112;have hw112_0:=hx112_0;cases e112;replace hx112_0:=(HB.out.cell (World.block_lt_of_cell? w _ hx112_0)).trans hx112_0;replace p112:=eq_true p112;replace q112:=eq_true q112;refine start_ (n:=35) (S:=fun w'=>w'.cell? ⟨gb102,0,none⟩=some (.int .i8 ((rd_T51 l2 x12_1).f0))∧w'.cell? ⟨gb102,1,none⟩=some (.int .i8 ((rd_T51 l2 x12_1).f1))∧w'.cell? ⟨gb102,2,none⟩=some (.int .i8 ((rd_T51 l2 x12_1).f2))∧w'.cell? (ad112.add (((rd_T51 l2 x12_1).f1)).toNat)=some (.int .i8 (rd l1 ((rd_T51 l2 x12_1).f1)))) (ds:=[]) #[false,false,false,false,false,false,false,false,false,false,false,false,false,false,false,false,false,false,false,false,false,false,false,false,false,false,false,false,false,false,false,false,false,false,false] zq21 rfl rfl ⟨(blk_cell BK102.out 0).trans rfl,(blk_cell BK102.out 1).trans rfl,(blk_cell BK102.out 2).trans rfl,((HB.out.cell (World.block_lt_of_cell? w _ hw112_0)).trans hw112_0)⟩ (fun hHeld=>?_);refine with_tabW impl_areFaults.tab5 impl_areFaults.bits5 (fun HT_ HW_=>?_);generalize w44.drew=w45 at BK102 HB hx112_0 hHeld ⊢;refine pure_ (i:=0) (N:=some 22) (v:=?_) (a':=?_) #[true,false,false,false,false,false,false,false,false,false,false,false,false,false,false,false,false,false,false,false,false,false,false,false,false,false,false,false,false,false,false,false,false,false,false] rfl rfl (any_of HT_.out zq21) (fun _ _ _ h=>h) (Or.inl ⟨by rfl,?_⟩) ?_ ?_;rotate_left
              ·intro w';go_simp;with_reducible rfl
              rotate_left
              ·simp only [Act.put,List.setIfInBounds_toArray,List.set_cons_zero,List.set_cons_succ,i64_w,i32_w];rfl
              refine pure_ (i:=1) (N:=some 23) (v:=?_) (a':=?_) #[true,true,false,false,false,false,false,false,false,false,false,false,false,false,false,false,false,false,false,false,false,false,false,false,false,false,false,false,false,false,false,false,false,false,false] rfl rfl (any_of HT_.out zq21) (fun _ _ _ h=>h) (Or.inl ⟨by rfl,?_⟩) ?_ ?_;rotate_left
              ·intro w';go_simp;with_reducible rfl
              rotate_left
              ·simp only [Act.put,List.setIfInBounds_toArray,List.set_cons_zero,List.set_cons_succ,i64_w,i32_w];rfl
              refine pure_ (i:=2) (N:=some 24) (v:=?_) (a':=?_) #[true,true,true,false,false,false,false,false,false,false,false,false,false,false,false,false,false,false,false,false,false,false,false,false,false,false,false,false,false,false,false,false,false,false,false] rfl rfl (any_of HT_.out zq21) (fun _ _ _ h=>h) (Or.inl ⟨by rfl,?_⟩) ?_ ?_;rotate_left
              ·intro w';go_simp;with_reducible rfl
              rotate_left
              ·simp only [Act.put,List.setIfInBounds_toArray,List.set_cons_zero,List.set_cons_succ,i64_w,i32_w];rfl
              refine pure_ (i:=5) (N:=some 27) (v:=?_) (a':=?_) #[true,true,true,false,false,true,false,false,false,false,false,false,false,false,false,false,false,false,false,false,false,false,false,false,false,false,false,false,false,false,false,false,false,false,false] rfl rfl (any_of HT_.out zq21) (fun _ _ _ h=>h) (Or.inl ⟨by rfl,?_⟩) ?_ ?_;rotate_left
              ·intro w';go_simp;with_reducible rfl
              rotate_left
              ·simp only [Act.put,List.setIfInBounds_toArray,List.set_cons_zero,List.set_cons_succ,i64_w,i32_w];rfl
              refine take_ (i:=3) (N:=some 25) (v:=?_) (a':=?_) #[true,true,true,true,false,true,false,false,false,false,false,false,false,false,false,false,false,false,false,false,false,false,false,false,false,false,false,false,false,false,false,false,false,false,false] rfl rfl (take_ofW HT_.out HW_.out zq21) (fun _ _ _ h=>h) (Or.inl ⟨by rfl,?_⟩) hHeld ?_ ?_;rotate_left
              ·rintro w' ⟨s0,s1,s2,s3⟩
               go_simp;with_reducible rfl
              rotate_left
              ·simp only [Act.put,List.setIfInBounds_toArray,List.set_cons_zero,List.set_cons_succ,i64_w,i32_w];rfl
              refine pure_ (i:=4) (N:=some 26) (v:=?_) (a':=?_) #[true,true,true,true,true,true,false,false,false,false,false,false,false,false,false,false,false,false,false,false,false,false,false,false,false,false,false,false,false,false,false,false,false,false,false] rfl rfl (any_of HT_.out zq21) (fun _ _ _ h=>h) (Or.inl ⟨by rfl,?_⟩) ?_ ?_;rotate_left
              ·intro w';go_simp;with_reducible rfl
              rotate_left
              ·simp only [Act.put,List.setIfInBounds_toArray,List.set_cons_zero,List.set_cons_succ,i64_w,i32_w];rfl
              refine one_ (i:=6) (N:=some 28) #[true,true,true,true,true,true,true,false,false,false,false,false,false,false,false,false,false,false,false,false,false,false,false,false,false,false,false,false,false,false,false,false,false,false,false] rfl rfl (one_of HT_.out zq21) (by decide) (fun K hK=>?_);refine goes_ Try.func54 zq21 rfl #[.slice A0 l0.length c0] (by rfl) rfl rfl zq2 ?_
              with_reducible refine (impl_size_Ship.calls _ _ l0 t108 _ ?side1 ?side2 A17.out).mono ?_
              (case side1=>exact zq17);(case side2=>exact HC0.out)
              rintro e w' ⟨rfl,⟨nd,rfl⟩⟩
              refine ⟨_,rfl,?_⟩;refine hK.out _ _ ⟨(blk_cell BK102.out 0).trans rfl,(blk_cell BK102.out 1).trans rfl,(blk_cell BK102.out 2).trans rfl,((HB.out.cell (World.block_lt_of_cell? w _ hw112_0)).trans hw112_0)⟩ (fun hHeld=>?_);clear hK K;refine norm_ (a':=?_) ?_ ?_;rotate_left
              ·show Act.put _ (some 28) _=_
               simp only [Act.put,List.setIfInBounds_toArray,List.set_cons_zero,List.set_cons_succ,i64_w,i32_w];rfl
              refine pure_ (i:=7) (N:=some 29) (v:=?_) (a':=?_) #[true,true,true,true,true,true,true,true,false,false,false,false,false,false,false,false,false,false,false,false,false,false,false,false,false,false,false,false,false,false,false,false,false,false,false] rfl rfl (any_of HT_.out zq21) (fun _ _ _ h=>h) (Or.inl ⟨by rfl,?_⟩) ?_ ?_;rotate_left
              ·intro w';go_simp;with_reducible rfl
              rotate_left
              ·simp only [Act.put,List.setIfInBounds_toArray,List.set_cons_zero,List.set_cons_succ,i64_w,i32_w];rfl
              refine one_ (i:=8) (N:=some 30) #[true,true,true,true,true,true,true,true,true,false,false,false,false,false,false,false,false,false,false,false,false,false,false,false,false,false,false,false,false,false,false,false,false,false,false] rfl rfl (one_of HT_.out zq21) (by decide) (fun K hK=>?_);refine goes_ Try.func48 zq21 rfl #[.int .i64 (wrap64 ((rd_T51 l2 x12_1).f0)),.int .i64 1,.int .i64 (wrap64 (t108 - 1))] (by rfl) rfl rfl zq2 ?_
              with_reducible refine (impl_within.calls (wrap64 ((rd_T51 l2 x12_1).f0)) 1 (wrap64 (t108 - 1)) true _ A18.out).mono ?_
              rintro e w' ⟨rfl,⟨nd,rfl⟩⟩
              refine ⟨_,rfl,?_⟩;refine hK.out _ _ ⟨(blk_cell BK102.out 0).trans rfl,(blk_cell BK102.out 1).trans rfl,(blk_cell BK102.out 2).trans rfl,((HB.out.cell (World.block_lt_of_cell? w _ hw112_0)).trans hw112_0)⟩ (fun hHeld=>?_);clear hK K;refine norm_ (a':=?_) ?_ ?_;rotate_left
              ·show Act.put _ (some 30) _=_
               simp only [Act.put,List.setIfInBounds_toArray,List.set_cons_zero,List.set_cons_succ,i64_w,i32_w];rfl
              refine pure_ (i:=9) (N:=some 31) (v:=?_) (a':=?_) #[true,true,true,true,true,true,true,true,true,true,false,false,false,false,false,false,false,false,false,false,false,false,false,false,false,false,false,false,false,false,false,false,false,false,false] rfl rfl (any_of HT_.out zq21) (fun _ _ _ h=>h) (Or.inl ⟨by rfl,?_⟩) ?_ ?_;rotate_left
              ·intro w';go_simp;with_reducible rfl
              rotate_left
              ·simp only [Act.put,List.setIfInBounds_toArray,List.set_cons_zero,List.set_cons_succ,i64_w,i32_w];rfl
              refine pure_ (i:=10) (N:=some 32) (v:=?_) (a':=?_) #[true,true,true,true,true,true,true,true,true,true,true,false,false,false,false,false,false,false,false,false,false,false,false,false,false,false,false,false,false,false,false,false,false,false,false] rfl rfl (any_of HT_.out zq21) (fun _ _ _ h=>h) (Or.inl ⟨by rfl,?_⟩) ?_ ?_;rotate_left
              ·intro w';go_simp;with_reducible rfl
              rotate_left
              ·simp only [Act.put,List.setIfInBounds_toArray,List.set_cons_zero,List.set_cons_succ,i64_w,i32_w];rfl
              refine pure_ (i:=11) (N:=some 33) (v:=?_) (a':=?_) #[true,true,true,true,true,true,true,true,true,true,true,true,false,false,false,false,false,false,false,false,false,false,false,false,false,false,false,false,false,false,false,false,false,false,false] rfl rfl (any_of HT_.out zq21) (fun _ _ _ h=>h) (Or.inl ⟨by rfl,?_⟩) ?_ ?_;rotate_left
              ·intro w';go_simp;with_reducible rfl
              rotate_left
              ·simp only [Act.put,List.setIfInBounds_toArray,List.set_cons_zero,List.set_cons_succ,i64_w,i32_w];rfl
              refine pure_ (i:=12) (N:=some 34) (v:=?_) (a':=?_) #[true,true,true,true,true,true,true,true,true,true,true,true,true,false,false,false,false,false,false,false,false,false,false,false,false,false,false,false,false,false,false,false,false,false,false] rfl rfl (any_of HT_.out zq21) (fun _ _ _ h=>h) (Or.inl ⟨by rfl,?_⟩) ?_ ?_;rotate_left
              ·intro w';go_simp;with_reducible rfl
              rotate_left
              ·simp only [Act.put,List.setIfInBounds_toArray,List.set_cons_zero,List.set_cons_succ,i64_w,i32_w];rfl
              refine pure_ (i:=15) (N:=some 37) (v:=?_) (a':=?_) #[true,true,true,true,true,true,true,true,true,true,true,true,true,false,false,true,false,false,false,false,false,false,false,false,false,false,false,false,false,false,false,false,false,false,false] rfl rfl (any_of HT_.out zq21) (fun _ _ _ h=>h) (Or.inl ⟨by rfl,?_⟩) ?_ ?_;rotate_left
              ·intro w';go_simp;with_reducible rfl
              rotate_left
              ·simp only [Act.put,List.setIfInBounds_toArray,List.set_cons_zero,List.set_cons_succ,i64_w,i32_w];rfl
              refine take_ (i:=13) (N:=some 35) (v:=?_) (a':=?_) #[true,true,true,true,true,true,true,true,true,true,true,true,true,true,false,true,false,false,false,false,false,false,false,false,false,false,false,false,false,false,false,false,false,false,false] rfl rfl (take_ofW HT_.out HW_.out zq21) (fun _ _ _ h=>h) (Or.inl ⟨by rfl,?_⟩) hHeld ?_ ?_;rotate_left
              ·rintro w' ⟨s0,s1,s2,s3⟩
               go_simp;with_reducible rfl
              rotate_left
              ·simp only [Act.put,List.setIfInBounds_toArray,List.set_cons_zero,List.set_cons_succ,i64_w,i32_w];rfl
              refine pure_ (i:=14) (N:=some 36) (v:=?_) (a':=?_) #[true,true,true,true,true,true,true,true,true,true,true,true,true,true,true,true,false,false,false,false,false,false,false,false,false,false,false,false,false,false,false,false,false,false,false] rfl rfl (any_of HT_.out zq21) (fun _ _ _ h=>h) (Or.inl ⟨by rfl,?_⟩) ?_ ?_;rotate_left
              ·intro w';go_simp;with_reducible rfl
              rotate_left
              ·simp only [Act.put,List.setIfInBounds_toArray,List.set_cons_zero,List.set_cons_succ,i64_w,i32_w];rfl
              refine one_ (i:=16) (N:=some 38) #[true,true,true,true,true,true,true,true,true,true,true,true,true,true,true,true,true,false,false,false,false,false,false,false,false,false,false,false,false,false,false,false,false,false,false] rfl rfl (one_of HT_.out zq21) (by decide) (fun K hK=>?_);refine goes_ Try.func50 zq21 rfl #[.slice (some ad112) l1.length c1] (by rfl) rfl rfl zq2 ?_
              with_reducible refine (impl_size_int8.calls _ _ l1 t110 _ ?side1 ?side2 A20.out).mono ?_
              (case side1=>exact zq148);(case side2=>exact HC1.out)
              rintro e w' ⟨rfl,⟨nd,rfl⟩⟩
              refine ⟨_,rfl,?_⟩;refine hK.out _ _ ⟨(blk_cell BK102.out 0).trans rfl,(blk_cell BK102.out 1).trans rfl,(blk_cell BK102.out 2).trans rfl,((HB.out.cell (World.block_lt_of_cell? w _ hw112_0)).trans hw112_0)⟩ (fun hHeld=>?_);clear hK K;refine norm_ (a':=?_) ?_ ?_;rotate_left
              ·show Act.put _ (some 38) _=_
               simp only [Act.put,List.setIfInBounds_toArray,List.set_cons_zero,List.set_cons_succ,i64_w,i32_w];rfl
              refine pure_ (i:=17) (N:=some 39) (v:=?_) (a':=?_) #[true,true,true,true,true,true,true,true,true,true,true,true,true,true,true,true,true,true,false,false,false,false,false,false,false,false,false,false,false,false,false,false,false,false,false] rfl rfl (any_of HT_.out zq21) (fun _ _ _ h=>h) (Or.inl ⟨by rfl,?_⟩) ?_ ?_;rotate_left
              ·intro w';go_simp;with_reducible rfl
              rotate_left
              ·simp only [Act.put,List.setIfInBounds_toArray,List.set_cons_zero,List.set_cons_succ,i64_w,i32_w];rfl
              refine one_ (i:=18) (N:=some 40) #[true,true,true,true,true,true,true,true,true,true,true,true,true,true,true,true,true,true,true,false,false,false,false,false,false,false,false,false,false,false,false,false,false,false,false] rfl rfl (one_of HT_.out zq21) (by decide) (fun K hK=>?_);refine goes_ Try.func48 zq21 rfl #[.int .i64 (wrap64 ((rd_T51 l2 x12_1).f1)),.int .i64 0,.int .i64 (wrap64 (t110 - 1))] (by rfl) rfl rfl zq2 ?_
              with_reducible refine (impl_within.calls (wrap64 ((rd_T51 l2 x12_1).f1)) 0 (wrap64 (t110 - 1)) true _ A21.out).mono ?_
              rintro e w' ⟨rfl,⟨nd,rfl⟩⟩
              refine ⟨_,rfl,?_⟩;refine hK.out _ _ ⟨(blk_cell BK102.out 0).trans rfl,(blk_cell BK102.out 1).trans rfl,(blk_cell BK102.out 2).trans rfl,((HB.out.cell (World.block_lt_of_cell? w _ hw112_0)).trans hw112_0)⟩ (fun hHeld=>?_);clear hK K;refine norm_ (a':=?_) ?_ ?_;rotate_left
              ·show Act.put _ (some 40) _=_
               simp only [Act.put,List.setIfInBounds_toArray,List.set_cons_zero,List.set_cons_succ,i64_w,i32_w];rfl
              refine pure_ (i:=19) (N:=some 41) (v:=?_) (a':=?_) #[true,true,true,true,true,true,true,true,true,true,true,true,true,true,true,true,true,true,true,true,false,false,false,false,false,false,false,false,false,false,false,false,false,false,false] rfl rfl (any_of HT_.out zq21) (fun _ _ _ h=>h) (Or.inl ⟨by rfl,?_⟩) ?_ ?_;rotate_left
              ·intro w';go_simp;with_reducible rfl
              rotate_left
              ·simp only [Act.put,List.setIfInBounds_toArray,List.set_cons_zero,List.set_cons_succ,i64_w,i32_w];rfl
              refine pure_ (i:=20) (N:=some 42) (v:=?_) (a':=?_) #[true,true,true,true,true,true,true,true,true,true,true,true,true,true,true,true,true,true,true,true,true,false,false,false,false,false,false,false,false,false,false,false,false,false,false] rfl rfl (any_of HT_.out zq21) (fun _ _ _ h=>h) (Or.inl ⟨by rfl,?_⟩) ?_ ?_;rotate_left
              ·intro w';go_simp;with_reducible rfl
              rotate_left
              ·simp only [Act.put,List.setIfInBounds_toArray,List.set_cons_zero,List.set_cons_succ,i64_w,i32_w];rfl
              refine pure_ (i:=21) (N:=some 43) (v:=?_) (a':=?_) #[true,true,true,true,true,true,true,true,true,true,true,true,true,true,true,true,true,true,true,true,true,true,false,false,false,false,false,false,false,false,false,false,false,false,false] rfl rfl (any_of HT_.out zq21) (fun _ _ _ h=>h) (Or.inl ⟨by rfl,?_⟩) ?_ ?_;rotate_left
              ·intro w';go_simp;with_reducible rfl
              rotate_left
              ·simp only [Act.put,List.setIfInBounds_toArray,List.set_cons_zero,List.set_cons_succ,i64_w,i32_w];rfl
              refine pure_ (i:=22) (N:=some 44) (v:=?_) (a':=?_) #[true,true,true,true,true,true,true,true,true,true,true,true,true,true,true,true,true,true,true,true,true,true,true,false,false,false,false,false,false,false,false,false,false,false,false] rfl rfl (any_of HT_.out zq21) (fun _ _ _ h=>h) (Or.inl ⟨by rfl,?_⟩) ?_ ?_;rotate_left
              ·intro w';go_simp;with_reducible rfl
              rotate_left
              ·simp only [Act.put,List.setIfInBounds_toArray,List.set_cons_zero,List.set_cons_succ,i64_w,i32_w];rfl
              refine pure_ (i:=23) (N:=some 45) (v:=?_) (a':=?_) #[true,true,true,true,true,true,true,true,true,true,true,true,true,true,true,true,true,true,true,true,true,true,true,true,false,false,false,false,false,false,false,false,false,false,false] rfl rfl (any_of HT_.out zq21) (fun _ _ _ h=>h) (Or.inl ⟨by rfl,?_⟩) ?_ ?_;rotate_left
              ·intro w';go_simp;with_reducible rfl
              rotate_left
              ·simp only [Act.put,List.setIfInBounds_toArray,List.set_cons_zero,List.set_cons_succ,i64_w,i32_w];rfl
              refine take_ (i:=24) (N:=some 46) (v:=?_) (a':=?_) #[true,true,true,true,true,true,true,true,true,true,true,true,true,true,true,true,true,true,true,true,true,true,true,true,true,false,false,false,false,false,false,false,false,false,false] rfl rfl (take_ofW HT_.out HW_.out zq21) (fun _ _ _ h=>h) (Or.inl ⟨by rfl,?_⟩) hHeld ?_ ?_;rotate_left
              ·rintro w' ⟨s0,s1,s2,s3⟩
               go_simp;with_reducible rfl
              rotate_left
              ·simp only [Act.put,List.setIfInBounds_toArray,List.set_cons_zero,List.set_cons_succ,i64_w,i32_w];rfl
              refine pure_ (i:=25) (N:=some 47) (v:=?_) (a':=?_) #[true,true,true,true,true,true,true,true,true,true,true,true,true,true,true,true,true,true,true,true,true,true,true,true,true,true,false,false,false,false,false,false,false,false,false] rfl rfl (any_of HT_.out zq21) (fun _ _ _ h=>h) (Or.inl ⟨by rfl,?_⟩) ?_ ?_;rotate_left
              ·intro w';go_simp;with_reducible rfl
              rotate_left
              ·simp only [Act.put,List.setIfInBounds_toArray,List.set_cons_zero,List.set_cons_succ,i64_w,i32_w];rfl
              refine take_ (i:=26) (N:=some 48) (v:=?_) (a':=?_) #[true,true,true,true,true,true,true,true,true,true,true,true,true,true,true,true,true,true,true,true,true,true,true,true,true,true,true,false,false,false,false,false,false,false,false] rfl rfl (take_ofW HT_.out HW_.out zq21) (fun _ _ _ h=>h) (Or.inl ⟨by rfl,?_⟩) hHeld ?_ ?_;rotate_left
              ·rintro w' ⟨s0,s1,s2,s3⟩
               go_simp;with_reducible rfl
              rotate_left
              ·simp only [Act.put,List.setIfInBounds_toArray,List.set_cons_zero,List.set_cons_succ,i64_w,i32_w];rfl
              refine pure_ (i:=27) (N:=some 49) (v:=?_) (a':=?_) #[true,true,true,true,true,true,true,true,true,true,true,true,true,true,true,true,true,true,true,true,true,true,true,true,true,true,true,true,false,false,false,false,false,false,false] rfl rfl (any_of HT_.out zq21) (fun _ _ _ h=>h) (Or.inl ⟨by rfl,?_⟩) ?_ ?_;rotate_left
              ·intro w';go_simp;with_reducible rfl
              rotate_left
              ·simp only [Act.put,List.setIfInBounds_toArray,List.set_cons_zero,List.set_cons_succ,i64_w,i32_w];rfl
              refine pure_ (i:=28) (N:=some 50) (v:=?_) (a':=?_) #[true,true,true,true,true,true,true,true,true,true,true,true,true,true,true,true,true,true,true,true,true,true,true,true,true,true,true,true,true,false,false,false,false,false,false] rfl rfl (any_of HT_.out zq21) (fun _ _ _ h=>h) (Or.inl ⟨by rfl,?_⟩) ?_ ?_;rotate_left
              ·intro w';go_simp;with_reducible rfl
              rotate_left
              ·simp only [Act.put,List.setIfInBounds_toArray,List.set_cons_zero,List.set_cons_succ,i64_w,i32_w];rfl
              refine pure_ (i:=29) (N:=some 51) (v:=?_) (a':=?_) #[true,true,true,true,true,true,true,true,true,true,true,true,true,true,true,true,true,true,true,true,true,true,true,true,true,true,true,true,true,true,false,false,false,false,false] rfl rfl (any_of HT_.out zq21) (fun _ _ _ h=>h) (Or.inl ⟨by rfl,?_⟩) ?_ ?_;rotate_left
              ·intro w';go_simp;with_reducible rfl
              rotate_left
              ·simp only [Act.put,List.setIfInBounds_toArray,List.set_cons_zero,List.set_cons_succ,i64_w,i32_w];rfl
              refine pure_ (i:=30) (N:=some 52) (v:=?_) (a':=?_) #[true,true,true,true,true,true,true,true,true,true,true,true,true,true,true,true,true,true,true,true,true,true,true,true,true,true,true,true,true,true,true,false,false,false,false] rfl rfl (any_of HT_.out zq21) (fun _ _ _ h=>h) (Or.inl ⟨by rfl,?_⟩) ?_ ?_;rotate_left
              ·intro w';go_simp;with_reducible rfl
              rotate_left
              ·simp only [Act.put,List.setIfInBounds_toArray,List.set_cons_zero,List.set_cons_succ,i64_w,i32_w];rfl
              refine take_ (i:=31) (N:=some 53) (v:=?_) (a':=?_) #[true,true,true,true,true,true,true,true,true,true,true,true,true,true,true,true,true,true,true,true,true,true,true,true,true,true,true,true,true,true,true,true,false,false,false] rfl rfl (take_ofW HT_.out HW_.out zq21) (fun _ _ _ h=>h) (Or.inl ⟨by rfl,?_⟩) hHeld ?_ ?_;rotate_left
              ·rintro w' ⟨s0,s1,s2,s3⟩
               go_simp;with_reducible rfl
              rotate_left
              ·simp only [Act.put,List.setIfInBounds_toArray,List.set_cons_zero,List.set_cons_succ,i64_w,i32_w];rfl
              refine one_ (i:=32) (N:=some 54) #[true,true,true,true,true,true,true,true,true,true,true,true,true,true,true,true,true,true,true,true,true,true,true,true,true,true,true,true,true,true,true,true,true,false,false] rfl rfl (one_of HT_.out zq21) (by decide) (fun K hK=>?_);refine goes_ Try.func49 zq21 rfl #[.int .i8 ((rd_T51 l2 x12_1).f2)] (by rfl) rfl rfl zq2 ?_
              with_reducible refine (impl_isKind.calls ((rd_T51 l2 x12_1).f2) false _ A32.out).mono ?_
              rintro e w' ⟨rfl,⟨nd,rfl⟩⟩
              refine ⟨_,rfl,?_⟩;refine hK.out _ _ ⟨(blk_cell BK102.out 0).trans rfl,(blk_cell BK102.out 1).trans rfl,(blk_cell BK102.out 2).trans rfl,((HB.out.cell (World.block_lt_of_cell? w _ hw112_0)).trans hw112_0)⟩ (fun hHeld=>?_);clear hK K;refine norm_ (a':=?_) ?_ ?_;rotate_left
              ·show Act.put _ (some 54) _=_
               simp only [Act.put,List.setIfInBounds_toArray,List.set_cons_zero,List.set_cons_succ,i64_w,i32_w];rfl
              refine pure_ (i:=33) (N:=some 55) (v:=?_) (a':=?_) #[true,true,true,true,true,true,true,true,true,true,true,true,true,true,true,true,true,true,true,true,true,true,true,true,true,true,true,true,true,true,true,true,true,true,false] rfl rfl (any_of HT_.out zq21) (fun _ _ _ h=>h) (Or.inl ⟨by rfl,?_⟩) ?_ ?_;rotate_left
              ·intro w';go_simp;with_reducible rfl
              rotate_left
              ·simp only [Act.put,List.setIfInBounds_toArray,List.set_cons_zero,List.set_cons_succ,i64_w,i32_w];rfl
              refine pure_ (i:=34) (N:=some 56) (v:=?_) (a':=?_) #[true,true,true,true,true,true,true,true,true,true,true,true,true,true,true,true,true,true,true,true,true,true,true,true,true,true,true,true,true,true,true,true,true,true,true] rfl rfl (any_of HT_.out zq21) (fun _ _ _ h=>h) (Or.inl ⟨by rfl,?_⟩) ?_ ?_;rotate_left
              ·intro w';go_simp;with_reducible rfl
              rotate_left
              ·simp only [Act.put,List.setIfInBounds_toArray,List.set_cons_zero,List.set_cons_succ,i64_w,i32_w];rfl
              refine done_ (done_of HT_.out zq21) ?_;(try go_wp2)
              go_ret
              exact ⟨by first|rfl|(simp [errW_none,errW_some,IntKind.wrap_i64,wrap64];done)|(simp [errW_none,errW_some] <;> rfl)|(simp [*,errW_none,errW_some] <;> rfl),by repeat (first|(with_reducible first|exact HB.out|apply below_alloc|apply pw_below_drewN|apply below_drew1|refine below_set ?_ GE102.out)|exact HB.out)⟩
           ·rw [if_neg c24] at H;exact absurd H (by simp)
          ·rw [if_neg c23] at H;exact absurd H (by simp)
         ·replace c22:=Bool.eq_false_iff.mpr c22;subst c22
          have H1:(some false)=some r:=by rw [if_neg (show ¬ (false=true) by decide)] at H;exact H
          clear H;have H:=H1;clear H1;obtain rfl:=Option.some.inj H;have p101:0≤(x12_1:Int):=of_decide_eq_true zq1;have q101:x12_1 < (l2.length:Int):=of_decide_eq_true zq1;obtain ⟨ad101,e101,hx101_0,hx101_1,hx101_2⟩:=at_T51 HR2.out x12_1 p101 q101;cases e101;replace hx101_0:=(HB.out.cell (World.block_lt_of_cell? w _ hx101_0)).trans hx101_0;replace hx101_1:=(HB.out.cell (World.block_lt_of_cell? w _ hx101_1)).trans hx101_1;replace hx101_2:=(HB.out.cell (World.block_lt_of_cell? w _ hx101_2)).trans hx101_2;replace p101:=eq_true p101;replace q101:=eq_true q101
          try go_wp2_with (first|((with_reducible refine gate_dst (N:=8) rfl ?_);refine box_event ?hg (N:=8) ?hd (cs:=#[.int .i8 0,.int .i8 0,.int .i8 0]) (t:=51) ?hr ?_;(case hd=>rfl);(case hg=>rfl);(case hr=>exact zq15);intro gb102 hg w46 hbox hb;have n0_:=am (below_step zq0 hb);have n1_:=am (hbox);have n2_:=am ((by rw [hg];exact (below_size zq0):w.heap.size≤gb102));have n3_:=am ((by rw [hg];exact (below_size zq0):w.heap.size≤gb102));clear HB;have HB:=n0_;have BK102:=n1_;have GW102:=n2_;have GE102:=n3_;clear n0_ n1_ n2_ n3_;clear hb hbox hg;have hcz47_0:w46.cell? ⟨gb102,0,none⟩=some (.int .i8 0):=(blk_cell BK102.out 0).trans rfl;have hcz47_1:w46.cell? ⟨gb102,1,none⟩=some (.int .i8 0):=(blk_cell BK102.out 1).trans rfl;have hcz47_2:w46.cell? ⟨gb102,2,none⟩=some (.int .i8 0):=(blk_cell BK102.out 2).trans rfl;have hfz47_0:=blk_frozen BK102.out 0;have hfz47_1:=blk_frozen BK102.out 1;have hfz47_2:=blk_frozen BK102.out 2)|((with_reducible refine gate_store (t:=51) (p:=8) rfl ?_);refine store_event (t:=51) (p:=8) (v:=?vo_w48) (w1:=(((w46.setCell ⟨gb102,0,none⟩ (.int .i8 ((rd_T51 l2 x12_1).f0))).setCell ⟨gb102,1,none⟩ (.int .i8 ((rd_T51 l2 x12_1).f1))).setCell ⟨gb102,2,none⟩ (.int .i8 ((rd_T51 l2 x12_1).f2)))) ?hg ?ho ?hn ?hr ?_;(case ho=>rfl);(case hg=>rfl);(case hn=>rfl);(case hr=>exact zq15);intro w48 hw;have n0_:Aside0 (w48.heap[gb102]?=some (.cells #[.int .i8 ((rd_T51 l2 x12_1).f0),.int .i8 ((rd_T51 l2 x12_1).f1),.int .i8 ((rd_T51 l2 x12_1).f2)] 51 (0,0))):=⟨zq16⟩;have n1_:Aside0 (Below w.heap.size w w48):=⟨(by rw [hw];exact zq22)⟩;clear hw;clear BK102;clear HB;have BK102:=n0_;have HB:=n1_;clear n0_ n1_;have q49:(x12_1:Int)≤((l2.length:Int):Int):=of_decide_eq_true zq1;obtain ⟨i049,hi049,_,hsz49,_⟩:=info_parts info51;have hroom49:l2.length≤c2:=HC2.out;have hC49:Kd.C k51 _ (some ad101) l2.length l2:=HR2.out;have hcut49:=cut_to (P:=Try.prog) 29 51 .i64 Try.underlying29 hi049 (some ad101) l2.length c2 x12_1 (of_decide_eq_true zq1) q49 hroom49;have hr49:=Kd.C_take (m:=(x12_1:Int).toNat) hC49 (by omega);have hy49:y103.length=(x12_1:Int).toNat:=zq128;rw [← Ny103.out] at hr49;rw [← hy49] at hcut49;have HR106:=am hr49;have HC106:=am (show y103.length≤c2 from by omega);clear hr49 hC49 hroom49 hi049 hsz49;have KY49:=am hy49;clear hy49;replace q49:=eq_true q49)|((with_reducible refine gate_callee (f:=57) rfl ?_);refine goesL_ (some 21) rfl rfl Try.func57 zq21 rfl #[.slice (some ad101) y103.length c2,.func (.func 58) #[] #[.pointer (some ⟨gb102,0,none⟩)]] rfl zq2 ?_;(with_reducible refine (slices_ContainsFunc_Fault_Fault__impl_areFaults_1.calls _ _ y103 ((rd_T51 l2 x12_1).f0) ((rd_T51 l2 x12_1).f1) ((rd_T51 l2 x12_1).f2) gb102 false _ ?side1 ?side2 ?side3 A9.out).mono ?_);(case side1=>exact zq57);(case side2=>exact HC106.out);(case side3=>exact zq143);rintro e w50 ⟨rfl,hb⟩;refine ⟨_,rfl,?_⟩;have n0_:=am (blk_below (g:=gb102) (o:=.cells #[.int .i8 ((rd_T51 l2 x12_1).f0),.int .i8 ((rd_T51 l2 x12_1).f1),.int .i8 ((rd_T51 l2 x12_1).f2)] 51 (0,0)) zq143 hb);have n1_:=am (below_step zq22 hb);clear BK102;clear HB;have BK102:=n0_;have HB:=n1_;clear n0_ n1_;(try clear hb);(try clear hb2);(try clear hk);(try clear hi)))
          have n0_:=am (blk_drew BK102.out);have n1_:=am (below_drew1 HB.out);clear BK102;clear HB;have BK102:=n0_;have HB:=n1_;clear n0_ n1_;refine start_ (n:=35) (S:=fun w'=>w'.cell? ⟨gb102,0,none⟩=some (.int .i8 ((rd_T51 l2 x12_1).f0))∧w'.cell? ⟨gb102,1,none⟩=some (.int .i8 ((rd_T51 l2 x12_1).f1))∧w'.cell? ⟨gb102,2,none⟩=some (.int .i8 ((rd_T51 l2 x12_1).f2))) (ds:=[]) #[false,false,false,false,false,false,false,false,false,false,false,false,false,false,false,false,false,false,false,false,false,false,false,false,false,false,false,false,false,false,false,false,false,false,false] zq21 rfl rfl ⟨(blk_cell BK102.out 0).trans rfl,(blk_cell BK102.out 1).trans rfl,(blk_cell BK102.out 2).trans rfl⟩ (fun hHeld=>?_);refine with_tabW impl_areFaults.tab5 impl_areFaults.bits5 (fun HT_ HW_=>?_);generalize w50.drew=w51 at BK102 HB hHeld ⊢;refine pure_ (i:=0) (N:=some 22) (v:=?_) (a':=?_) #[true,false,false,false,false,false,false,false,false,false,false,false,false,false,false,false,false,false,false,false,false,false,false,false,false,false,false,false,false,false,false,false,false,false,false] rfl rfl (any_of HT_.out zq21) (fun _ _ _ h=>h) (Or.inl ⟨by rfl,?_⟩) ?_ ?_;rotate_left
          ·intro w';go_simp;with_reducible rfl
          rotate_left
          ·simp only [Act.put,List.setIfInBounds_toArray,List.set_cons_zero,List.set_cons_succ,i64_w,i32_w];rfl
          refine pure_ (i:=1) (N:=some 23) (v:=?_) (a':=?_) #[true,true,false,false,false,false,false,false,false,false,false,false,false,false,false,false,false,false,false,false,false,false,false,false,false,false,false,false,false,false,false,false,false,false,false] rfl rfl (any_of HT_.out zq21) (fun _ _ _ h=>h) (Or.inl ⟨by rfl,?_⟩) ?_ ?_;rotate_left
          ·intro w';go_simp;with_reducible rfl
          rotate_left
          ·simp only [Act.put,List.setIfInBounds_toArray,List.set_cons_zero,List.set_cons_succ,i64_w,i32_w];rfl
          refine pure_ (i:=2) (N:=some 24) (v:=?_) (a':=?_) #[true,true,true,false,false,false,false,false,false,false,false,false,false,false,false,false,false,false,false,false,false,false,false,false,false,false,false,false,false,false,false,false,false,false,false] rfl rfl (any_of HT_.out zq21) (fun _ _ _ h=>h) (Or.inl ⟨by rfl,?_⟩) ?_ ?_;rotate_left
          ·intro w';go_simp;with_reducible rfl
          rotate_left
          ·simp only [Act.put,List.setIfInBounds_toArray,List.set_cons_zero,List.set_cons_succ,i64_w,i32_w];rfl
          refine pure_ (i:=5) (N:=some 27) (v:=?_) (a':=?_) #[true,true,true,false,false,true,false,false,false,false,false,false,false,false,false,false,false,false,false,false,false,false,false,false,false,false,false,false,false,false,false,false,false,false,false] rfl rfl (any_of HT_.out zq21) (fun _ _ _ h=>h) (Or.inl ⟨by rfl,?_⟩) ?_ ?_;rotate_left
          ·intro w';go_simp;with_reducible rfl
          rotate_left
          ·simp only [Act.put,List.setIfInBounds_toArray,List.set_cons_zero,List.set_cons_succ,i64_w,i32_w];rfl
          refine take_ (i:=3) (N:=some 25) (v:=?_) (a':=?_) #[true,true,true,true,false,true,false,false,false,false,false,false,false,false,false,false,false,false,false,false,false,false,false,false,false,false,false,false,false,false,false,false,false,false,false] rfl rfl (take_ofW HT_.out HW_.out zq21) (fun _ _ _ h=>h) (Or.inl ⟨by rfl,?_⟩) hHeld ?_ ?_;rotate_left
          ·rintro w' ⟨s0,s1,s2⟩
           go_simp;with_reducible rfl
          rotate_left
          ·simp only [Act.put,List.setIfInBounds_toArray,List.set_cons_zero,List.set_cons_succ,i64_w,i32_w];rfl
          refine pure_ (i:=4) (N:=some 26) (v:=?_) (a':=?_) #[true,true,true,true,true,true,false,false,false,false,false,false,false,false,false,false,false,false,false,false,false,false,false,false,false,false,false,false,false,false,false,false,false,false,false] rfl rfl (any_of HT_.out zq21) (fun _ _ _ h=>h) (Or.inl ⟨by rfl,?_⟩) ?_ ?_;rotate_left
          ·intro w';go_simp;with_reducible rfl
          rotate_left
          ·simp only [Act.put,List.setIfInBounds_toArray,List.set_cons_zero,List.set_cons_succ,i64_w,i32_w];rfl
          refine one_ (i:=6) (N:=some 28) #[true,true,true,true,true,true,true,false,false,false,false,false,false,false,false,false,false,false,false,false,false,false,false,false,false,false,false,false,false,false,false,false,false,false,false] rfl rfl (one_of HT_.out zq21) (by decide) (fun K hK=>?_);refine goes_ Try.func54 zq21 rfl #[.slice A0 l0.length c0] (by rfl) rfl rfl zq2 ?_
          with_reducible refine (impl_size_Ship.calls _ _ l0 t108 _ ?side1 ?side2 A17.out).mono ?_
          (case side1=>exact zq17);(case side2=>exact HC0.out)
          rintro e w' ⟨rfl,⟨nd,rfl⟩⟩
          refine ⟨_,rfl,?_⟩;refine hK.out _ _ ⟨(blk_cell BK102.out 0).trans rfl,(blk_cell BK102.out 1).trans rfl,(blk_cell BK102.out 2).trans rfl⟩ (fun hHeld=>?_);clear hK K;refine norm_ (a':=?_) ?_ ?_;rotate_left
          ·show Act.put _ (some 28) _=_
           simp only [Act.put,List.setIfInBounds_toArray,List.set_cons_zero,List.set_cons_succ,i64_w,i32_w];rfl
          refine pure_ (i:=7) (N:=some 29) (v:=?_) (a':=?_) #[true,true,true,true,true,true,true,true,false,false,false,false,false,false,false,false,false,false,false,false,false,false,false,false,false,false,false,false,false,false,false,false,false,false,false] rfl rfl (any_of HT_.out zq21) (fun _ _ _ h=>h) (Or.inl ⟨by rfl,?_⟩) ?_ ?_;rotate_left
          ·intro w';go_simp;with_reducible rfl
          rotate_left
          ·simp only [Act.put,List.setIfInBounds_toArray,List.set_cons_zero,List.set_cons_succ,i64_w,i32_w];rfl
          refine one_ (i:=8) (N:=some 30) #[true,true,true,true,true,true,true,true,true,false,false,false,false,false,false,false,false,false,false,false,false,false,false,false,false,false,false,false,false,false,false,false,false,false,false] rfl rfl (one_of HT_.out zq21) (by decide) (fun K hK=>?_);refine goes_ Try.func48 zq21 rfl #[.int .i64 (wrap64 ((rd_T51 l2 x12_1).f0)),.int .i64 1,.int .i64 (wrap64 (t108 - 1))] (by rfl) rfl rfl zq2 ?_
          with_reducible refine (impl_within.calls (wrap64 ((rd_T51 l2 x12_1).f0)) 1 (wrap64 (t108 - 1)) true _ A18.out).mono ?_
          rintro e w' ⟨rfl,⟨nd,rfl⟩⟩
          refine ⟨_,rfl,?_⟩;refine hK.out _ _ ⟨(blk_cell BK102.out 0).trans rfl,(blk_cell BK102.out 1).trans rfl,(blk_cell BK102.out 2).trans rfl⟩ (fun hHeld=>?_);clear hK K;refine norm_ (a':=?_) ?_ ?_;rotate_left
          ·show Act.put _ (some 30) _=_
           simp only [Act.put,List.setIfInBounds_toArray,List.set_cons_zero,List.set_cons_succ,i64_w,i32_w];rfl
          refine pure_ (i:=9) (N:=some 31) (v:=?_) (a':=?_) #[true,true,true,true,true,true,true,true,true,true,false,false,false,false,false,false,false,false,false,false,false,false,false,false,false,false,false,false,false,false,false,false,false,false,false] rfl rfl (any_of HT_.out zq21) (fun _ _ _ h=>h) (Or.inl ⟨by rfl,?_⟩) ?_ ?_;rotate_left
          ·intro w';go_simp;with_reducible rfl
          rotate_left
          ·simp only [Act.put,List.setIfInBounds_toArray,List.set_cons_zero,List.set_cons_succ,i64_w,i32_w];rfl
          refine pure_ (i:=10) (N:=some 32) (v:=?_) (a':=?_) #[true,true,true,true,true,true,true,true,true,true,true,false,false,false,false,false,false,false,false,false,false,false,false,false,false,false,false,false,false,false,false,false,false,false,false] rfl rfl (any_of HT_.out zq21) (fun _ _ _ h=>h) (Or.inl ⟨by rfl,?_⟩) ?_ ?_;rotate_left
          ·intro w';go_simp;with_reducible rfl
          rotate_left
          ·simp only [Act.put,List.setIfInBounds_toArray,List.set_cons_zero,List.set_cons_succ,i64_w,i32_w];rfl
          refine pure_ (i:=11) (N:=some 33) (v:=?_) (a':=?_) #[true,true,true,true,true,true,true,true,true,true,true,true,false,false,false,false,false,false,false,false,false,false,false,false,false,false,false,false,false,false,false,false,false,false,false] rfl rfl (any_of HT_.out zq21) (fun _ _ _ h=>h) (Or.inl ⟨by rfl,?_⟩) ?_ ?_;rotate_left
          ·intro w';go_simp;with_reducible rfl
          rotate_left
          ·simp only [Act.put,List.setIfInBounds_toArray,List.set_cons_zero,List.set_cons_succ,i64_w,i32_w];rfl
          refine pure_ (i:=12) (N:=some 34) (v:=?_) (a':=?_) #[true,true,true,true,true,true,true,true,true,true,true,true,true,false,false,false,false,false,false,false,false,false,false,false,false,false,false,false,false,false,false,false,false,false,false] rfl rfl (any_of HT_.out zq21) (fun _ _ _ h=>h) (Or.inl ⟨by rfl,?_⟩) ?_ ?_;rotate_left
          ·intro w';go_simp;with_reducible rfl
          rotate_left
          ·simp only [Act.put,List.setIfInBounds_toArray,List.set_cons_zero,List.set_cons_succ,i64_w,i32_w];rfl
          refine pure_ (i:=15) (N:=some 37) (v:=?_) (a':=?_) #[true,true,true,true,true,true,true,true,true,true,true,true,true,false,false,true,false,false,false,false,false,false,false,false,false,false,false,false,false,false,false,false,false,false,false] rfl rfl (any_of HT_.out zq21) (fun _ _ _ h=>h) (Or.inl ⟨by rfl,?_⟩) ?_ ?_;rotate_left
          ·intro w';go_simp;with_reducible rfl
          rotate_left
          ·simp only [Act.put,List.setIfInBounds_toArray,List.set_cons_zero,List.set_cons_succ,i64_w,i32_w];rfl
          refine take_ (i:=13) (N:=some 35) (v:=?_) (a':=?_) #[true,true,true,true,true,true,true,true,true,true,true,true,true,true,false,true,false,false,false,false,false,false,false,false,false,false,false,false,false,false,false,false,false,false,false] rfl rfl (take_ofW HT_.out HW_.out zq21) (fun _ _ _ h=>h) (Or.inl ⟨by rfl,?_⟩) hHeld ?_ ?_;rotate_left
          ·rintro w' ⟨s0,s1,s2⟩
           go_simp;with_reducible rfl
          rotate_left
          ·simp only [Act.put,List.setIfInBounds_toArray,List.set_cons_zero,List.set_cons_succ,i64_w,i32_w];rfl
          refine pure_ (i:=14) (N:=some 36) (v:=?_) (a':=?_) #[true,true,true,true,true,true,true,true,true,true,true,true,true,true,true,true,false,false,false,false,false,false,false,false,false,false,false,false,false,false,false,false,false,false,false] rfl rfl (any_of HT_.out zq21) (fun _ _ _ h=>h) (Or.inl ⟨by rfl,?_⟩) ?_ ?_;rotate_left
          ·intro w';go_simp;with_reducible rfl
          rotate_left
          ·simp only [Act.put,List.setIfInBounds_toArray,List.set_cons_zero,List.set_cons_succ,i64_w,i32_w];rfl
          refine one_ (i:=16) (N:=some 38) #[true,true,true,true,true,true,true,true,true,true,true,true,true,true,true,true,true,false,false,false,false,false,false,false,false,false,false,false,false,false,false,false,false,false,false] rfl rfl (one_of HT_.out zq21) (by decide) (fun K hK=>?_);refine goes_ Try.func50 zq21 rfl #[.slice A1 l1.length c1] (by rfl) rfl rfl zq2 ?_
          with_reducible refine (impl_size_int8.calls _ _ l1 t110 _ ?side1 ?side2 A20.out).mono ?_
          (case side1=>exact zq148);(case side2=>exact HC1.out)
          rintro e w' ⟨rfl,⟨nd,rfl⟩⟩
          refine ⟨_,rfl,?_⟩;refine hK.out _ _ ⟨(blk_cell BK102.out 0).trans rfl,(blk_cell BK102.out 1).trans rfl,(blk_cell BK102.out 2).trans rfl⟩ (fun hHeld=>?_);clear hK K;refine norm_ (a':=?_) ?_ ?_;rotate_left
          ·show Act.put _ (some 38) _=_
           simp only [Act.put,List.setIfInBounds_toArray,List.set_cons_zero,List.set_cons_succ,i64_w,i32_w];rfl
          refine pure_ (i:=17) (N:=some 39) (v:=?_) (a':=?_) #[true,true,true,true,true,true,true,true,true,true,true,true,true,true,true,true,true,true,false,false,false,false,false,false,false,false,false,false,false,false,false,false,false,false,false] rfl rfl (any_of HT_.out zq21) (fun _ _ _ h=>h) (Or.inl ⟨by rfl,?_⟩) ?_ ?_;rotate_left
          ·intro w';go_simp;with_reducible rfl
          rotate_left
          ·simp only [Act.put,List.setIfInBounds_toArray,List.set_cons_zero,List.set_cons_succ,i64_w,i32_w];rfl
          refine one_ (i:=18) (N:=some 40) #[true,true,true,true,true,true,true,true,true,true,true,true,true,true,true,true,true,true,true,false,false,false,false,false,false,false,false,false,false,false,false,false,false,false,false] rfl rfl (one_of HT_.out zq21) (by decide) (fun K hK=>?_);refine goes_ Try.func48 zq21 rfl #[.int .i64 (wrap64 ((rd_T51 l2 x12_1).f1)),.int .i64 0,.int .i64 (wrap64 (t110 - 1))] (by rfl) rfl rfl zq2 ?_
          with_reducible refine (impl_within.calls (wrap64 ((rd_T51 l2 x12_1).f1)) 0 (wrap64 (t110 - 1)) false _ A21.out).mono ?_
          rintro e w' ⟨rfl,⟨nd,rfl⟩⟩
          refine ⟨_,rfl,?_⟩;refine hK.out _ _ ⟨(blk_cell BK102.out 0).trans rfl,(blk_cell BK102.out 1).trans rfl,(blk_cell BK102.out 2).trans rfl⟩ (fun hHeld=>?_);clear hK K;refine norm_ (a':=?_) ?_ ?_;rotate_left
          ·show Act.put _ (some 40) _=_
           simp only [Act.put,List.setIfInBounds_toArray,List.set_cons_zero,List.set_cons_succ,i64_w,i32_w];rfl
          refine pure_ (i:=19) (N:=some 41) (v:=?_) (a':=?_) #[true,true,true,true,true,true,true,true,true,true,true,true,true,true,true,true,true,true,true,true,false,false,false,false,false,false,false,false,false,false,false,false,false,false,false] rfl rfl (any_of HT_.out zq21) (fun _ _ _ h=>h) (Or.inl ⟨by rfl,?_⟩) ?_ ?_;rotate_left
          ·intro w';go_simp;with_reducible rfl
          rotate_left
          ·simp only [Act.put,List.setIfInBounds_toArray,List.set_cons_zero,List.set_cons_succ,i64_w,i32_w];rfl
          refine pure_ (i:=20) (N:=some 42) (v:=?_) (a':=?_) #[true,true,true,true,true,true,true,true,true,true,true,true,true,true,true,true,true,true,true,true,true,false,false,false,false,false,false,false,false,false,false,false,false,false,false] rfl rfl (any_of HT_.out zq21) (fun _ _ _ h=>h) (Or.inl ⟨by rfl,?_⟩) ?_ ?_;rotate_left
          ·intro w';go_simp;with_reducible rfl
          rotate_left
          ·simp only [Act.put,List.setIfInBounds_toArray,List.set_cons_zero,List.set_cons_succ,i64_w,i32_w];rfl
          refine pure_ (i:=21) (N:=some 43) (v:=?_) (a':=?_) #[true,true,true,true,true,true,true,true,true,true,true,true,true,true,true,true,true,true,true,true,true,true,false,false,false,false,false,false,false,false,false,false,false,false,false] rfl rfl (any_of HT_.out zq21) (fun _ _ _ h=>h) (Or.inl ⟨by rfl,?_⟩) ?_ ?_;rotate_left
          ·intro w';go_simp;with_reducible rfl
          rotate_left
          ·simp only [Act.put,List.setIfInBounds_toArray,List.set_cons_zero,List.set_cons_succ,i64_w,i32_w];rfl
          refine pure_ (i:=22) (N:=some 44) (v:=undef) (a':=?_) #[true,true,true,true,true,true,true,true,true,true,true,true,true,true,true,true,true,true,true,true,true,true,true,false,false,false,false,false,false,false,false,false,false,false,false] rfl rfl (any_of HT_.out zq21) (fun _ _ _ h=>h) (Or.inr ⟨by rfl,rfl⟩) ?_ ?_;rotate_left
          ·simp only [Act.put,List.setIfInBounds_toArray,List.set_cons_zero,List.set_cons_succ,i64_w,i32_w];rfl
          refine pure_ (i:=23) (N:=some 45) (v:=undef) (a':=?_) #[true,true,true,true,true,true,true,true,true,true,true,true,true,true,true,true,true,true,true,true,true,true,true,true,false,false,false,false,false,false,false,false,false,false,false] rfl rfl (any_of HT_.out zq21) (fun _ _ _ h=>h) (Or.inr ⟨by rfl,rfl⟩) ?_ ?_;rotate_left
          ·simp only [Act.put,List.setIfInBounds_toArray,List.set_cons_zero,List.set_cons_succ,i64_w,i32_w];rfl
          refine pure_ (i:=24) (N:=some 46) (v:=undef) (a':=?_) #[true,true,true,true,true,true,true,true,true,true,true,true,true,true,true,true,true,true,true,true,true,true,true,true,true,false,false,false,false,false,false,false,false,false,false] rfl rfl (any_of HT_.out zq21) (fun _ _ _ h=>h) (Or.inr ⟨by rfl,rfl⟩) ?_ ?_;rotate_left
          ·simp only [Act.put,List.setIfInBounds_toArray,List.set_cons_zero,List.set_cons_succ,i64_w,i32_w];rfl
          refine pure_ (i:=25) (N:=some 47) (v:=undef) (a':=?_) #[true,true,true,true,true,true,true,true,true,true,true,true,true,true,true,true,true,true,true,true,true,true,true,true,true,true,false,false,false,false,false,false,false,false,false] rfl rfl (any_of HT_.out zq21) (fun _ _ _ h=>h) (Or.inr ⟨by rfl,rfl⟩) ?_ ?_;rotate_left
          ·simp only [Act.put,List.setIfInBounds_toArray,List.set_cons_zero,List.set_cons_succ,i64_w,i32_w];rfl
          refine pure_ (i:=26) (N:=some 48) (v:=undef) (a':=?_) #[true,true,true,true,true,true,true,true,true,true,true,true,true,true,true,true,true,true,true,true,true,true,true,true,true,true,true,false,false,false,false,false,false,false,false] rfl rfl (any_of HT_.out zq21) (fun _ _ _ h=>h) (Or.inr ⟨by rfl,rfl⟩) ?_ ?_;rotate_left
          ·simp only [Act.put,List.setIfInBounds_toArray,List.set_cons_zero,List.set_cons_succ,i64_w,i32_w];rfl
          refine pure_ (i:=27) (N:=some 49) (v:=undef) (a':=?_) #[true,true,true,true,true,true,true,true,true,true,true,true,true,true,true,true,true,true,true,true,true,true,true,true,true,true,true,true,false,false,false,false,false,false,false] rfl rfl (any_of HT_.out zq21) (fun _ _ _ h=>h) (Or.inr ⟨by rfl,rfl⟩) ?_ ?_;rotate_left
          ·simp only [Act.put,List.setIfInBounds_toArray,List.set_cons_zero,List.set_cons_succ,i64_w,i32_w];rfl
          refine pure_ (i:=28) (N:=some 50) (v:=?_) (a':=?_) #[true,true,true,true,true,true,true,true,true,true,true,true,true,true,true,true,true,true,true,true,true,true,true,true,true,true,true,true,true,false,false,false,false,false,false] rfl rfl (any_of HT_.out zq21) (fun _ _ _ h=>h) (Or.inl ⟨by rfl,?_⟩) ?_ ?_;rotate_left
          ·intro w';go_simp;with_reducible rfl
          rotate_left
          ·simp only [Act.put,List.setIfInBounds_toArray,List.set_cons_zero,List.set_cons_succ,i64_w,i32_w];rfl
          refine pure_ (i:=29) (N:=some 51) (v:=?_) (a':=?_) #[true,true,true,true,true,true,true,true,true,true,true,true,true,true,true,true,true,true,true,true,true,true,true,true,true,true,true,true,true,true,false,false,false,false,false] rfl rfl (any_of HT_.out zq21) (fun _ _ _ h=>h) (Or.inl ⟨by rfl,?_⟩) ?_ ?_;rotate_left
          ·intro w';go_simp;with_reducible rfl
          rotate_left
          ·simp only [Act.put,List.setIfInBounds_toArray,List.set_cons_zero,List.set_cons_succ,i64_w,i32_w];rfl
          refine pure_ (i:=30) (N:=some 52) (v:=undef) (a':=?_) #[true,true,true,true,true,true,true,true,true,true,true,true,true,true,true,true,true,true,true,true,true,true,true,true,true,true,true,true,true,true,true,false,false,false,false] rfl rfl (any_of HT_.out zq21) (fun _ _ _ h=>h) (Or.inr ⟨by rfl,rfl⟩) ?_ ?_;rotate_left
          ·simp only [Act.put,List.setIfInBounds_toArray,List.set_cons_zero,List.set_cons_succ,i64_w,i32_w];rfl
          refine pure_ (i:=31) (N:=some 53) (v:=undef) (a':=?_) #[true,true,true,true,true,true,true,true,true,true,true,true,true,true,true,true,true,true,true,true,true,true,true,true,true,true,true,true,true,true,true,true,false,false,false] rfl rfl (any_of HT_.out zq21) (fun _ _ _ h=>h) (Or.inr ⟨by rfl,rfl⟩) ?_ ?_;rotate_left
          ·simp only [Act.put,List.setIfInBounds_toArray,List.set_cons_zero,List.set_cons_succ,i64_w,i32_w];rfl
          refine pure_ (i:=32) (N:=some 54) (v:=undef) (a':=?_) #[true,true,true,true,true,true,true,true,true,true,true,true,true,true,true,true,true,true,true,true,true,true,true,true,true,true,true,true,true,true,true,true,true,false,false] rfl rfl (any_of HT_.out zq21) (fun _ _ _ h=>h) (Or.inr ⟨by rfl,rfl⟩) ?_ ?_;rotate_left
          ·simp only [Act.put,List.setIfInBounds_toArray,List.set_cons_zero,List.set_cons_succ,i64_w,i32_w];rfl
          refine pure_ (i:=33) (N:=some 55) (v:=undef) (a':=?_) #[true,true,true,true,true,true,true,true,true,true,true,true,true,true,true,true,true,true,true,true,true,true,true,true,true,true,true,true,true,true,true,true,true,true,false] rfl rfl (any_of HT_.out zq21) (fun _ _ _ h=>h) (Or.inr ⟨by rfl,rfl⟩) ?_ ?_;rotate_left
          ·simp only [Act.put,List.setIfInBounds_toArray,List.set_cons_zero,List.set_cons_succ,i64_w,i32_w];rfl
          refine pure_ (i:=34) (N:=some 56) (v:=?_) (a':=?_) #[true,true,true,true,true,true,true,true,true,true,true,true,true,true,true,true,true,true,true,true,true,true,true,true,true,true,true,true,true,true,true,true,true,true,true] rfl rfl (any_of HT_.out zq21) (fun _ _ _ h=>h) (Or.inl ⟨by rfl,?_⟩) ?_ ?_;rotate_left
          ·intro w';go_simp;with_reducible rfl
          rotate_left
          ·simp only [Act.put,List.setIfInBounds_toArray,List.set_cons_zero,List.set_cons_succ,i64_w,i32_w];rfl
          refine done_ (done_of HT_.out zq21) ?_;(try go_wp2)
          go_ret
          exact ⟨by first|rfl|(simp [errW_none,errW_some,IntKind.wrap_i64,wrap64];done)|(simp [errW_none,errW_some] <;> rfl)|(simp [*,errW_none,errW_some] <;> rfl),by repeat (first|(with_reducible first|exact HB.out|apply below_alloc|apply pw_below_drewN|apply below_drew1|refine below_set ?_ GE102.out)|exact HB.out)⟩
        ·replace c19:=Bool.eq_false_iff.mpr c19;subst c19
         have H1:(some false)=some r:=by rw [if_neg (show ¬ (false=true) by decide)] at H;exact H
         clear H;have H:=H1;clear H1;obtain rfl:=Option.some.inj H;have p101:0≤(x12_1:Int):=of_decide_eq_true zq1;have q101:x12_1 < (l2.length:Int):=of_decide_eq_true zq1;obtain ⟨ad101,e101,hx101_0,hx101_1,hx101_2⟩:=at_T51 HR2.out x12_1 p101 q101;cases e101;replace hx101_0:=(HB.out.cell (World.block_lt_of_cell? w _ hx101_0)).trans hx101_0;replace hx101_1:=(HB.out.cell (World.block_lt_of_cell? w _ hx101_1)).trans hx101_1;replace hx101_2:=(HB.out.cell (World.block_lt_of_cell? w _ hx101_2)).trans hx101_2;replace p101:=eq_true p101;replace q101:=eq_true q101
         try go_wp2_with (first|((with_reducible refine gate_dst (N:=8) rfl ?_);refine box_event ?hg (N:=8) ?hd (cs:=#[.int .i8 0,.int .i8 0,.int .i8 0]) (t:=51) ?hr ?_;(case hd=>rfl);(case hg=>rfl);(case hr=>exact zq15);intro gb102 hg w52 hbox hb;have n0_:=am (below_step zq0 hb);have n1_:=am (hbox);have n2_:=am ((by rw [hg];exact (below_size zq0):w.heap.size≤gb102));have n3_:=am ((by rw [hg];exact (below_size zq0):w.heap.size≤gb102));clear HB;have HB:=n0_;have BK102:=n1_;have GW102:=n2_;have GE102:=n3_;clear n0_ n1_ n2_ n3_;clear hb hbox hg;have hcz53_0:w52.cell? ⟨gb102,0,none⟩=some (.int .i8 0):=(blk_cell BK102.out 0).trans rfl;have hcz53_1:w52.cell? ⟨gb102,1,none⟩=some (.int .i8 0):=(blk_cell BK102.out 1).trans rfl;have hcz53_2:w52.cell? ⟨gb102,2,none⟩=some (.int .i8 0):=(blk_cell BK102.out 2).trans rfl;have hfz53_0:=blk_frozen BK102.out 0;have hfz53_1:=blk_frozen BK102.out 1;have hfz53_2:=blk_frozen BK102.out 2)|((with_reducible refine gate_store (t:=51) (p:=8) rfl ?_);refine store_event (t:=51) (p:=8) (v:=?vo_w54) (w1:=(((w52.setCell ⟨gb102,0,none⟩ (.int .i8 ((rd_T51 l2 x12_1).f0))).setCell ⟨gb102,1,none⟩ (.int .i8 ((rd_T51 l2 x12_1).f1))).setCell ⟨gb102,2,none⟩ (.int .i8 ((rd_T51 l2 x12_1).f2)))) ?hg ?ho ?hn ?hr ?_;(case ho=>rfl);(case hg=>rfl);(case hn=>rfl);(case hr=>exact zq15);intro w54 hw;have n0_:Aside0 (w54.heap[gb102]?=some (.cells #[.int .i8 ((rd_T51 l2 x12_1).f0),.int .i8 ((rd_T51 l2 x12_1).f1),.int .i8 ((rd_T51 l2 x12_1).f2)] 51 (0,0))):=⟨zq16⟩;have n1_:Aside0 (Below w.heap.size w w54):=⟨(by rw [hw];exact zq22)⟩;clear hw;clear BK102;clear HB;have BK102:=n0_;have HB:=n1_;clear n0_ n1_;have q55:(x12_1:Int)≤((l2.length:Int):Int):=of_decide_eq_true zq1;obtain ⟨i055,hi055,_,hsz55,_⟩:=info_parts info51;have hroom55:l2.length≤c2:=HC2.out;have hC55:Kd.C k51 _ (some ad101) l2.length l2:=HR2.out;have hcut55:=cut_to (P:=Try.prog) 29 51 .i64 Try.underlying29 hi055 (some ad101) l2.length c2 x12_1 (of_decide_eq_true zq1) q55 hroom55;have hr55:=Kd.C_take (m:=(x12_1:Int).toNat) hC55 (by omega);have hy55:y103.length=(x12_1:Int).toNat:=zq128;rw [← Ny103.out] at hr55;rw [← hy55] at hcut55;have HR106:=am hr55;have HC106:=am (show y103.length≤c2 from by omega);clear hr55 hC55 hroom55 hi055 hsz55;have KY55:=am hy55;clear hy55;replace q55:=eq_true q55)|((with_reducible refine gate_callee (f:=57) rfl ?_);refine goesL_ (some 21) rfl rfl Try.func57 zq21 rfl #[.slice (some ad101) y103.length c2,.func (.func 58) #[] #[.pointer (some ⟨gb102,0,none⟩)]] rfl zq2 ?_;(with_reducible refine (slices_ContainsFunc_Fault_Fault__impl_areFaults_1.calls _ _ y103 ((rd_T51 l2 x12_1).f0) ((rd_T51 l2 x12_1).f1) ((rd_T51 l2 x12_1).f2) gb102 false _ ?side1 ?side2 ?side3 A9.out).mono ?_);(case side1=>exact zq57);(case side2=>exact HC106.out);(case side3=>exact zq143);rintro e w56 ⟨rfl,hb⟩;refine ⟨_,rfl,?_⟩;have n0_:=am (blk_below (g:=gb102) (o:=.cells #[.int .i8 ((rd_T51 l2 x12_1).f0),.int .i8 ((rd_T51 l2 x12_1).f1),.int .i8 ((rd_T51 l2 x12_1).f2)] 51 (0,0)) zq143 hb);have n1_:=am (below_step zq22 hb);clear BK102;clear HB;have BK102:=n0_;have HB:=n1_;clear n0_ n1_;(try clear hb);(try clear hb2);(try clear hk);(try clear hi)))
         have n0_:=am (blk_drew BK102.out);have n1_:=am (below_drew1 HB.out);clear BK102;clear HB;have BK102:=n0_;have HB:=n1_;clear n0_ n1_;refine start_ (n:=35) (S:=fun w'=>w'.cell? ⟨gb102,0,none⟩=some (.int .i8 ((rd_T51 l2 x12_1).f0))∧w'.cell? ⟨gb102,1,none⟩=some (.int .i8 ((rd_T51 l2 x12_1).f1))∧w'.cell? ⟨gb102,2,none⟩=some (.int .i8 ((rd_T51 l2 x12_1).f2))) (ds:=[]) #[false,false,false,false,false,false,false,false,false,false,false,false,false,false,false,false,false,false,false,false,false,false,false,false,false,false,false,false,false,false,false,false,false,false,false] zq21 rfl rfl ⟨(blk_cell BK102.out 0).trans rfl,(blk_cell BK102.out 1).trans rfl,(blk_cell BK102.out 2).trans rfl⟩ (fun hHeld=>?_);refine with_tabW impl_areFaults.tab5 impl_areFaults.bits5 (fun HT_ HW_=>?_);generalize w56.drew=w57 at BK102 HB hHeld ⊢;refine pure_ (i:=0) (N:=some 22) (v:=?_) (a':=?_) #[true,false,false,false,false,false,false,false,false,false,false,false,false,false,false,false,false,false,false,false,false,false,false,false,false,false,false,false,false,false,false,false,false,false,false] rfl rfl (any_of HT_.out zq21) (fun _ _ _ h=>h) (Or.inl ⟨by rfl,?_⟩) ?_ ?_;rotate_left
         ·intro w';go_simp;with_reducible rfl
         rotate_left
         ·simp only [Act.put,List.setIfInBounds_toArray,List.set_cons_zero,List.set_cons_succ,i64_w,i32_w];rfl
         refine pure_ (i:=1) (N:=some 23) (v:=?_) (a':=?_) #[true,true,false,false,false,false,false,false,false,false,false,false,false,false,false,false,false,false,false,false,false,false,false,false,false,false,false,false,false,false,false,false,false,false,false] rfl rfl (any_of HT_.out zq21) (fun _ _ _ h=>h) (Or.inl ⟨by rfl,?_⟩) ?_ ?_;rotate_left
         ·intro w';go_simp;with_reducible rfl
         rotate_left
         ·simp only [Act.put,List.setIfInBounds_toArray,List.set_cons_zero,List.set_cons_succ,i64_w,i32_w];rfl
         refine pure_ (i:=2) (N:=some 24) (v:=?_) (a':=?_) #[true,true,true,false,false,false,false,false,false,false,false,false,false,false,false,false,false,false,false,false,false,false,false,false,false,false,false,false,false,false,false,false,false,false,false] rfl rfl (any_of HT_.out zq21) (fun _ _ _ h=>h) (Or.inl ⟨by rfl,?_⟩) ?_ ?_;rotate_left
         ·intro w';go_simp;with_reducible rfl
         rotate_left
         ·simp only [Act.put,List.setIfInBounds_toArray,List.set_cons_zero,List.set_cons_succ,i64_w,i32_w];rfl
         refine pure_ (i:=5) (N:=some 27) (v:=?_) (a':=?_) #[true,true,true,false,false,true,false,false,false,false,false,false,false,false,false,false,false,false,false,false,false,false,false,false,false,false,false,false,false,false,false,false,false,false,false] rfl rfl (any_of HT_.out zq21) (fun _ _ _ h=>h) (Or.inl ⟨by rfl,?_⟩) ?_ ?_;rotate_left
         ·intro w';go_simp;with_reducible rfl
         rotate_left
         ·simp only [Act.put,List.setIfInBounds_toArray,List.set_cons_zero,List.set_cons_succ,i64_w,i32_w];rfl
         refine take_ (i:=3) (N:=some 25) (v:=?_) (a':=?_) #[true,true,true,true,false,true,false,false,false,false,false,false,false,false,false,false,false,false,false,false,false,false,false,false,false,false,false,false,false,false,false,false,false,false,false] rfl rfl (take_ofW HT_.out HW_.out zq21) (fun _ _ _ h=>h) (Or.inl ⟨by rfl,?_⟩) hHeld ?_ ?_;rotate_left
         ·rintro w' ⟨s0,s1,s2⟩
          go_simp;with_reducible rfl
         rotate_left
         ·simp only [Act.put,List.setIfInBounds_toArray,List.set_cons_zero,List.set_cons_succ,i64_w,i32_w];rfl
         refine pure_ (i:=4) (N:=some 26) (v:=?_) (a':=?_) #[true,true,true,true,true,true,false,false,false,false,false,false,false,false,false,false,false,false,false,false,false,false,false,false,false,false,false,false,false,false,false,false,false,false,false] rfl rfl (any_of HT_.out zq21) (fun _ _ _ h=>h) (Or.inl ⟨by rfl,?_⟩) ?_ ?_;rotate_left
         ·intro w';go_simp;with_reducible rfl
         rotate_left
         ·simp only [Act.put,List.setIfInBounds_toArray,List.set_cons_zero,List.set_cons_succ,i64_w,i32_w];rfl
         refine one_ (i:=6) (N:=some 28) #[true,true,true,true,true,true,true,false,false,false,false,false,false,false,false,false,false,false,false,false,false,false,false,false,false,false,false,false,false,false,false,false,false,false,false] rfl rfl (one_of HT_.out zq21) (by decide) (fun K hK=>?_);refine goes_ Try.func54 zq21 rfl #[.slice A0 l0.length c0] (by rfl) rfl rfl zq2 ?_
         with_reducible refine (impl_size_Ship.calls _ _ l0 t108 _ ?side1 ?side2 A17.out).mono ?_
         (case side1=>exact zq17);(case side2=>exact HC0.out)
         rintro e w' ⟨rfl,⟨nd,rfl⟩⟩
         refine ⟨_,rfl,?_⟩;refine hK.out _ _ ⟨(blk_cell BK102.out 0).trans rfl,(blk_cell BK102.out 1).trans rfl,(blk_cell BK102.out 2).trans rfl⟩ (fun hHeld=>?_);clear hK K;refine norm_ (a':=?_) ?_ ?_;rotate_left
         ·show Act.put _ (some 28) _=_
          simp only [Act.put,List.setIfInBounds_toArray,List.set_cons_zero,List.set_cons_succ,i64_w,i32_w];rfl
         refine pure_ (i:=7) (N:=some 29) (v:=?_) (a':=?_) #[true,true,true,true,true,true,true,true,false,false,false,false,false,false,false,false,false,false,false,false,false,false,false,false,false,false,false,false,false,false,false,false,false,false,false] rfl rfl (any_of HT_.out zq21) (fun _ _ _ h=>h) (Or.inl ⟨by rfl,?_⟩) ?_ ?_;rotate_left
         ·intro w';go_simp;with_reducible rfl
         rotate_left
         ·simp only [Act.put,List.setIfInBounds_toArray,List.set_cons_zero,List.set_cons_succ,i64_w,i32_w];rfl
         refine one_ (i:=8) (N:=some 30) #[true,true,true,true,true,true,true,true,true,false,false,false,false,false,false,false,false,false,false,false,false,false,false,false,false,false,false,false,false,false,false,false,false,false,false] rfl rfl (one_of HT_.out zq21) (by decide) (fun K hK=>?_);refine goes_ Try.func48 zq21 rfl #[.int .i64 (wrap64 ((rd_T51 l2 x12_1).f0)),.int .i64 1,.int .i64 (wrap64 (t108 - 1))] (by rfl) rfl rfl zq2 ?_
         with_reducible refine (impl_within.calls (wrap64 ((rd_T51 l2 x12_1).f0)) 1 (wrap64 (t108 - 1)) false _ A18.out).mono ?_
         rintro e w' ⟨rfl,⟨nd,rfl⟩⟩
         refine ⟨_,rfl,?_⟩;refine hK.out _ _ ⟨(blk_cell BK102.out 0).trans rfl,(blk_cell BK102.out 1).trans rfl,(blk_cell BK102.out 2).trans rfl⟩ (fun hHeld=>?_);clear hK K;refine norm_ (a':=?_) ?_ ?_;rotate_left
         ·show Act.put _ (some 30) _=_
          simp only [Act.put,List.setIfInBounds_toArray,List.set_cons_zero,List.set_cons_succ,i64_w,i32_w];rfl
         refine pure_ (i:=9) (N:=some 31) (v:=?_) (a':=?_) #[true,true,true,true,true,true,true,true,true,true,false,false,false,false,false,false,false,false,false,false,false,false,false,false,false,false,false,false,false,false,false,false,false,false,false] rfl rfl (any_of HT_.out zq21) (fun _ _ _ h=>h) (Or.inl ⟨by rfl,?_⟩) ?_ ?_;rotate_left
         ·intro w';go_simp;with_reducible rfl
         rotate_left
         ·simp only [Act.put,List.setIfInBounds_toArray,List.set_cons_zero,List.set_cons_succ,i64_w,i32_w];rfl
         refine pure_ (i:=10) (N:=some 32) (v:=?_) (a':=?_) #[true,true,true,true,true,true,true,true,true,true,true,false,false,false,false,false,false,false,false,false,false,false,false,false,false,false,false,false,false,false,false,false,false,false,false] rfl rfl (any_of HT_.out zq21) (fun _ _ _ h=>h) (Or.inl ⟨by rfl,?_⟩) ?_ ?_;rotate_left
         ·intro w';go_simp;with_reducible rfl
         rotate_left
         ·simp only [Act.put,List.setIfInBounds_toArray,List.set_cons_zero,List.set_cons_succ,i64_w,i32_w];rfl
         refine pure_ (i:=11) (N:=some 33) (v:=?_) (a':=?_) #[true,true,true,true,true,true,true,true,true,true,true,true,false,false,false,false,false,false,false,false,false,false,false,false,false,false,false,false,false,false,false,false,false,false,false] rfl rfl (any_of HT_.out zq21) (fun _ _ _ h=>h) (Or.inl ⟨by rfl,?_⟩) ?_ ?_;rotate_left
         ·intro w';go_simp;with_reducible rfl
         rotate_left
         ·simp only [Act.put,List.setIfInBounds_toArray,List.set_cons_zero,List.set_cons_succ,i64_w,i32_w];rfl
         refine pure_ (i:=12) (N:=some 34) (v:=undef) (a':=?_) #[true,true,true,true,true,true,true,true,true,true,true,true,true,false,false,false,false,false,false,false,false,false,false,false,false,false,false,false,false,false,false,false,false,false,false] rfl rfl (any_of HT_.out zq21) (fun _ _ _ h=>h) (Or.inr ⟨by rfl,rfl⟩) ?_ ?_;rotate_left
         ·simp only [Act.put,List.setIfInBounds_toArray,List.set_cons_zero,List.set_cons_succ,i64_w,i32_w];rfl
         refine pure_ (i:=13) (N:=some 35) (v:=undef) (a':=?_) #[true,true,true,true,true,true,true,true,true,true,true,true,true,true,false,false,false,false,false,false,false,false,false,false,false,false,false,false,false,false,false,false,false,false,false] rfl rfl (any_of HT_.out zq21) (fun _ _ _ h=>h) (Or.inr ⟨by rfl,rfl⟩) ?_ ?_;rotate_left
         ·simp only [Act.put,List.setIfInBounds_toArray,List.set_cons_zero,List.set_cons_succ,i64_w,i32_w];rfl
         refine pure_ (i:=14) (N:=some 36) (v:=undef) (a':=?_) #[true,true,true,true,true,true,true,true,true,true,true,true,true,true,true,false,false,false,false,false,false,false,false,false,false,false,false,false,false,false,false,false,false,false,false] rfl rfl (any_of HT_.out zq21) (fun _ _ _ h=>h) (Or.inr ⟨by rfl,rfl⟩) ?_ ?_;rotate_left
         ·simp only [Act.put,List.setIfInBounds_toArray,List.set_cons_zero,List.set_cons_succ,i64_w,i32_w];rfl
         refine pure_ (i:=15) (N:=some 37) (v:=undef) (a':=?_) #[true,true,true,true,true,true,true,true,true,true,true,true,true,true,true,true,false,false,false,false,false,false,false,false,false,false,false,false,false,false,false,false,false,false,false] rfl rfl (any_of HT_.out zq21) (fun _ _ _ h=>h) (Or.inr ⟨by rfl,rfl⟩) ?_ ?_;rotate_left
         ·simp only [Act.put,List.setIfInBounds_toArray,List.set_cons_zero,List.set_cons_succ,i64_w,i32_w];rfl
         refine pure_ (i:=16) (N:=some 38) (v:=undef) (a':=?_) #[true,true,true,true,true,true,true,true,true,true,true,true,true,true,true,true,true,false,false,false,false,false,false,false,false,false,false,false,false,false,false,false,false,false,false] rfl rfl (any_of HT_.out zq21) (fun _ _ _ h=>h) (Or.inr ⟨by rfl,rfl⟩) ?_ ?_;rotate_left
         ·simp only [Act.put,List.setIfInBounds_toArray,List.set_cons_zero,List.set_cons_succ,i64_w,i32_w];rfl
         refine pure_ (i:=17) (N:=some 39) (v:=undef) (a':=?_) #[true,true,true,true,true,true,true,true,true,true,true,true,true,true,true,true,true,true,false,false,false,false,false,false,false,false,false,false,false,false,false,false,false,false,false] rfl rfl (any_of HT_.out zq21) (fun _ _ _ h=>h) (Or.inr ⟨by rfl,rfl⟩) ?_ ?_;rotate_left
         ·simp only [Act.put,List.setIfInBounds_toArray,List.set_cons_zero,List.set_cons_succ,i64_w,i32_w];rfl
         refine pure_ (i:=18) (N:=some 40) (v:=undef) (a':=?_) #[true,true,true,true,true,true,true,true,true,true,true,true,true,true,true,true,true,true,true,false,false,false,false,false,false,false,false,false,false,false,false,false,false,false,false] rfl rfl (any_of HT_.out zq21) (fun _ _ _ h=>h) (Or.inr ⟨by rfl,rfl⟩) ?_ ?_;rotate_left
         ·simp only [Act.put,List.setIfInBounds_toArray,List.set_cons_zero,List.set_cons_succ,i64_w,i32_w];rfl
         refine pure_ (i:=19) (N:=some 41) (v:=undef) (a':=?_) #[true,true,true,true,true,true,true,true,true,true,true,true,true,true,true,true,true,true,true,true,false,false,false,false,false,false,false,false,false,false,false,false,false,false,false] rfl rfl (any_of HT_.out zq21) (fun _ _ _ h=>h) (Or.inr ⟨by rfl,rfl⟩) ?_ ?_;rotate_left
         ·simp only [Act.put,List.setIfInBounds_toArray,List.set_cons_zero,List.set_cons_succ,i64_w,i32_w];rfl
         refine pure_ (i:=20) (N:=some 42) (v:=?_) (a':=?_) #[true,true,true,true,true,true,true,true,true,true,true,true,true,true,true,true,true,true,true,true,true,false,false,false,false,false,false,false,false,false,false,false,false,false,false] rfl rfl (any_of HT_.out zq21) (fun _ _ _ h=>h) (Or.inl ⟨by rfl,?_⟩) ?_ ?_;rotate_left
         ·intro w';go_simp;with_reducible rfl
         rotate_left
         ·simp only [Act.put,List.setIfInBounds_toArray,List.set_cons_zero,List.set_cons_succ,i64_w,i32_w];rfl
         refine pure_ (i:=21) (N:=some 43) (v:=?_) (a':=?_) #[true,true,true,true,true,true,true,true,true,true,true,true,true,true,true,true,true,true,true,true,true,true,false,false,false,false,false,false,false,false,false,false,false,false,false] rfl rfl (any_of HT_.out zq21) (fun _ _ _ h=>h) (Or.inl ⟨by rfl,?_⟩) ?_ ?_;rotate_left
         ·intro w';go_simp;with_reducible rfl
         rotate_left
         ·simp only [Act.put,List.setIfInBounds_toArray,List.set_cons_zero,List.set_cons_succ,i64_w,i32_w];rfl
         refine pure_ (i:=22) (N:=some 44) (v:=undef) (a':=?_) #[true,true,true,true,true,true,true,true,true,true,true,true,true,true,true,true,true,true,true,true,true,true,true,false,false,false,false,false,false,false,false,false,false,false,false] rfl rfl (any_of HT_.out zq21) (fun _ _ _ h=>h) (Or.inr ⟨by rfl,rfl⟩) ?_ ?_;rotate_left
         ·simp only [Act.put,List.setIfInBounds_toArray,List.set_cons_zero,List.set_cons_succ,i64_w,i32_w];rfl
         refine pure_ (i:=23) (N:=some 45) (v:=undef) (a':=?_) #[true,true,true,true,true,true,true,true,true,true,true,true,true,true,true,true,true,true,true,true,true,true,true,true,false,false,false,false,false,false,false,false,false,false,false] rfl rfl (any_of HT_.out zq21) (fun _ _ _ h=>h) (Or.inr ⟨by rfl,rfl⟩) ?_ ?_;rotate_left
         ·simp only [Act.put,List.setIfInBounds_toArray,List.set_cons_zero,List.set_cons_succ,i64_w,i32_w];rfl
         refine pure_ (i:=24) (N:=some 46) (v:=undef) (a':=?_) #[true,true,true,true,true,true,true,true,true,true,true,true,true,true,true,true,true,true,true,true,true,true,true,true,true,false,false,false,false,false,false,false,false,false,false] rfl rfl (any_of HT_.out zq21) (fun _ _ _ h=>h) (Or.inr ⟨by rfl,rfl⟩) ?_ ?_;rotate_left
         ·simp only [Act.put,List.setIfInBounds_toArray,List.set_cons_zero,List.set_cons_succ,i64_w,i32_w];rfl
         refine pure_ (i:=25) (N:=some 47) (v:=undef) (a':=?_) #[true,true,true,true,true,true,true,true,true,true,true,true,true,true,true,true,true,true,true,true,true,true,true,true,true,true,false,false,false,false,false,false,false,false,false] rfl rfl (any_of HT_.out zq21) (fun _ _ _ h=>h) (Or.inr ⟨by rfl,rfl⟩) ?_ ?_;rotate_left
         ·simp only [Act.put,List.setIfInBounds_toArray,List.set_cons_zero,List.set_cons_succ,i64_w,i32_w];rfl
         refine pure_ (i:=26) (N:=some 48) (v:=undef) (a':=?_) #[true,true,true,true,true,true,true,true,true,true,true,true,true,true,true,true,true,true,true,true,true,true,true,true,true,true,true,false,false,false,false,false,false,false,false] rfl rfl (any_of HT_.out zq21) (fun _ _ _ h=>h) (Or.inr ⟨by rfl,rfl⟩) ?_ ?_;rotate_left
         ·simp only [Act.put,List.setIfInBounds_toArray,List.set_cons_zero,List.set_cons_succ,i64_w,i32_w];rfl
         refine pure_ (i:=27) (N:=some 49) (v:=undef) (a':=?_) #[true,true,true,true,true,true,true,true,true,true,true,true,true,true,true,true,true,true,true,true,true,true,true,true,true,true,true,true,false,false,false,false,false,false,false] rfl rfl (any_of HT_.out zq21) (fun _ _ _ h=>h) (Or.inr ⟨by rfl,rfl⟩) ?_ ?_;rotate_left
         ·simp only [Act.put,List.setIfInBounds_toArray,List.set_cons_zero,List.set_cons_succ,i64_w,i32_w];rfl
         refine pure_ (i:=28) (N:=some 50) (v:=?_) (a':=?_) #[true,true,true,true,true,true,true,true,true,true,true,true,true,true,true,true,true,true,true,true,true,true,true,true,true,true,true,true,true,false,false,false,false,false,false] rfl rfl (any_of HT_.out zq21) (fun _ _ _ h=>h) (Or.inl ⟨by rfl,?_⟩) ?_ ?_;rotate_left
         ·intro w';go_simp;with_reducible rfl
         rotate_left
         ·simp only [Act.put,List.setIfInBounds_toArray,List.set_cons_zero,List.set_cons_succ,i64_w,i32_w];rfl
         refine pure_ (i:=29) (N:=some 51) (v:=?_) (a':=?_) #[true,true,true,true,true,true,true,true,true,true,true,true,true,true,true,true,true,true,true,true,true,true,true,true,true,true,true,true,true,true,false,false,false,false,false] rfl rfl (any_of HT_.out zq21) (fun _ _ _ h=>h) (Or.inl ⟨by rfl,?_⟩) ?_ ?_;rotate_left
         ·intro w';go_simp;with_reducible rfl
         rotate_left
         ·simp only [Act.put,List.setIfInBounds_toArray,List.set_cons_zero,List.set_cons_succ,i64_w,i32_w];rfl
         refine pure_ (i:=30) (N:=some 52) (v:=undef) (a':=?_) #[true,true,true,true,true,true,true,true,true,true,true,true,true,true,true,true,true,true,true,true,true,true,true,true,true,true,true,true,true,true,true,false,false,false,false] rfl rfl (any_of HT_.out zq21) (fun _ _ _ h=>h) (Or.inr ⟨by rfl,rfl⟩) ?_ ?_;rotate_left
         ·simp only [Act.put,List.setIfInBounds_toArray,List.set_cons_zero,List.set_cons_succ,i64_w,i32_w];rfl
         refine pure_ (i:=31) (N:=some 53) (v:=undef) (a':=?_) #[true,true,true,true,true,true,true,true,true,true,true,true,true,true,true,true,true,true,true,true,true,true,true,true,true,true,true,true,true,true,true,true,false,false,false] rfl rfl (any_of HT_.out zq21) (fun _ _ _ h=>h) (Or.inr ⟨by rfl,rfl⟩) ?_ ?_;rotate_left
         ·simp only [Act.put,List.setIfInBounds_toArray,List.set_cons_zero,List.set_cons_succ,i64_w,i32_w];rfl
         refine pure_ (i:=32) (N:=some 54) (v:=undef) (a':=?_) #[true,true,true,true,true,true,true,true,true,true,true,true,true,true,true,true,true,true,true,true,true,true,true,true,true,true,true,true,true,true,true,true,true,false,false] rfl rfl (any_of HT_.out zq21) (fun _ _ _ h=>h) (Or.inr ⟨by rfl,rfl⟩) ?_ ?_;rotate_left
         ·simp only [Act.put,List.setIfInBounds_toArray,List.set_cons_zero,List.set_cons_succ,i64_w,i32_w];rfl
         refine pure_ (i:=33) (N:=some 55) (v:=undef) (a':=?_) #[true,true,true,true,true,true,true,true,true,true,true,true,true,true,true,true,true,true,true,true,true,true,true,true,true,true,true,true,true,true,true,true,true,true,false] rfl rfl (any_of HT_.out zq21) (fun _ _ _ h=>h) (Or.inr ⟨by rfl,rfl⟩) ?_ ?_;rotate_left
         ·simp only [Act.put,List.setIfInBounds_toArray,List.set_cons_zero,List.set_cons_succ,i64_w,i32_w];rfl
         refine pure_ (i:=34) (N:=some 56) (v:=?_) (a':=?_) #[true,true,true,true,true,true,true,true,true,true,true,true,true,true,true,true,true,true,true,true,true,true,true,true,true,true,true,true,true,true,true,true,true,true,true] rfl rfl (any_of HT_.out zq21) (fun _ _ _ h=>h) (Or.inl ⟨by rfl,?_⟩) ?_ ?_;rotate_left
         ·intro w';go_simp;with_reducible rfl
         rotate_left
         ·simp only [Act.put,List.setIfInBounds_toArray,List.set_cons_zero,List.set_cons_succ,i64_w,i32_w];rfl
         refine done_ (done_of HT_.out zq21) ?_;(try go_wp2)
         go_ret
         exact ⟨by first|rfl|(simp [errW_none,errW_some,IntKind.wrap_i64,wrap64];done)|(simp [errW_none,errW_some] <;> rfl)|(simp [*,errW_none,errW_some] <;> rfl),by repeat (first|(with_reducible first|exact HB.out|apply below_alloc|apply pw_below_drewN|apply below_drew1|refine below_set ?_ GE102.out)|exact HB.out)⟩
      ·rw [if_neg c8] at H;exact absurd H (by simp)
     ·rw [if_neg c6] at H;exact absurd H (by simp)
    ·rw [if_neg c5] at H;exact absurd H (by simp)
   ·rw [if_neg c4] at H;have c4b0:decide (x12_1 < (l2.length:Int))=false:=decide_eq_false c4;clear c4;obtain rfl:=Option.some.inj H
    go_wp2
    go_ret
    exact ⟨by first|rfl|(simp [errW_none,errW_some,IntKind.wrap_i64,wrap64];done)|(simp [errW_none,errW_some] <;> rfl)|(simp [*,errW_none,errW_some] <;> rfl),by repeat (first|(with_reducible first|exact HB.out|apply below_alloc|apply pw_below_drewN|apply below_drew1)|exact HB.out)⟩
end Go.Proofs.Ytcajnbkbdbkpgac.G
end

section
namespace Go.Proofs.Ytcajnbkbdbkpgac.G
open Go.RowKit Go.Proofs.YtcajnbkbdbkpgacW.PrintWords Go.Proofs.YtcajnbkbdbkpgacW.PrintLast Go.Proofs.YtcajnbkbdbkpgacW.PrintMore
attribute [local go_sem] max2_int min2_int max_two min_two max_three min_three max_four min_four
set_option linter.unusedVariables false
set_option linter.unusedSimpArgs false
def impl_unless.f (a0:Bool) (a1:Int):Option (Int):=if a0=true then (some 0) else (some a1)
set_option maxHeartbeats 8000000 in
set_option maxRecDepth 100000 in
theorem impl_unless.calls (a0:Bool) (a1:Int) (r:Int) (w:World) (h:impl_unless.f a0 a1=some r) :
  Calls Try.prog 37 #[.bool a0,.int .i64 a1] w fun e w'=>e=.returned (.int .i64 r)∧Drawn0 w w':=by
 have H:(if a0=true then (some 0) else (some a1))=some r:=h;clear h
 by_cases c3:a0=true
 ·subst c3
  have H1:(some 0)=some r:=by rw [if_pos rfl] at H;exact H
  clear H;have H:=H1;clear H1;obtain rfl:=Option.some.inj H
  go_enter Try.func37,Try.ntmps37
  go_wp2
  go_ret
  exact ⟨by first|rfl|(simp only [IntKind.wrap_i64,wrap64];done)|(simp;done)|(simp [*];done),by repeat (first|exact Drawn0.refl _|apply Drawn0.step)⟩
 ·replace c3:=Bool.eq_false_iff.mpr c3;subst c3
  have H1:(some a1)=some r:=by rw [if_neg (show ¬ (false=true) by decide)] at H;exact H
  clear H;have H:=H1;clear H1;obtain rfl:=Option.some.inj H
  go_enter Try.func37,Try.ntmps37
  go_wp2
  go_ret
  exact ⟨by first|rfl|(simp only [IntKind.wrap_i64,wrap64];done)|(simp;done)|(simp [*];done),by repeat (first|exact Drawn0.refl _|apply Drawn0.step)⟩
end Go.Proofs.Ytcajnbkbdbkpgac.G
end

section
namespace Go.Proofs.Ytcajnbkbdbkpgac.G
open Go.RowKit Go.Proofs.YtcajnbkbdbkpgacW.PrintWords Go.Proofs.YtcajnbkbdbkpgacW.PrintLast Go.Proofs.YtcajnbkbdbkpgacW.PrintMore
attribute [local go_sem] max2_int min2_int max_two min_two max_three min_three max_four min_four
set_option linter.unusedVariables false
set_option linter.unusedSimpArgs false
def impl_lineCode.f (k:Nat) (l0:List (S74)) (l1:List Int) (l2:List (S51)):Option (Int):=(impl_ValidLine.f l0).bind fun t101=>(if t101=true then ((impl_ValidHoist.f k l1).bind fun t102=>(if t102=true then ((impl_areFaults.f k l0 l1 l2).bind fun t103=>((impl_unless.f t103 1).bind fun t104=>(some t104))) else ((impl_unless.f false 1).bind fun t105=>(some t105)))) else ((impl_unless.f false 1).bind fun t106=>(some t106)))
set_option maxHeartbeats 8000000 in
set_option maxRecDepth 100000 in
theorem impl_lineCode.calls (k:Nat) (A0:Option Addr) (c0:Nat) (l0:List (S74)) (A1:Option Addr) (c1:Nat) (l1:List Int) (A2:Option Addr) (c2:Nat) (l2:List (S51)) (r:Int) (w:World) (hr0:Kd.C k74 w A0 l0.length l0) (hc0:l0.length≤c0) (hr1:Kd.C (Kd.int .i8) w A1 l1.length l1) (hc1:l1.length≤c1) (hr2:Kd.C k51 w A2 l2.length l2) (hc2:l2.length≤c2) (h:impl_lineCode.f k l0 l1 l2=some r) :
  Calls Try.prog 25 #[.slice A0 l0.length c0,.slice A1 l1.length c1,.slice A2 l2.length c2] w fun e w'=>e=.returned (.int .i64 r)∧Below w.heap.size w w':=by
 have HR0:=am hr0;have HC0:=am hc0;clear hr0 hc0;have HR1:=am hr1;have HC1:=am hc1;clear hr1 hc1;have HR2:=am hr2;have HC2:=am hc2;clear hr2 hc2;have HB:=am (Below.refl w.heap.size w);have H:((impl_ValidLine.f l0).bind fun t101=>(if t101=true then ((impl_ValidHoist.f k l1).bind fun t102=>(if t102=true then ((impl_areFaults.f k l0 l1 l2).bind fun t103=>((impl_unless.f t103 1).bind fun t104=>(some t104))) else ((impl_unless.f false 1).bind fun t105=>(some t105)))) else ((impl_unless.f false 1).bind fun t106=>(some t106))))=some r:=h;clear h;replace H:=Option.bind_eq_some_iff.mp H;obtain ⟨t101,A40,H⟩:=H;replace H:(if t101=true then ((impl_ValidHoist.f k l1).bind fun t102=>(if t102=true then ((impl_areFaults.f k l0 l1 l2).bind fun t103=>((impl_unless.f t103 1).bind fun t104=>(some t104))) else ((impl_unless.f false 1).bind fun t105=>(some t105)))) else ((impl_unless.f false 1).bind fun t106=>(some t106)))=some r:=H;have A4:=am A40;clear A40
 by_cases c5:t101=true
 ·subst c5
  have H1:((impl_ValidHoist.f k l1).bind fun t102=>(if t102=true then ((impl_areFaults.f k l0 l1 l2).bind fun t103=>((impl_unless.f t103 1).bind fun t104=>(some t104))) else ((impl_unless.f false 1).bind fun t105=>(some t105))))=some r:=by rw [if_pos rfl] at H;exact H
  clear H;have H:=H1;clear H1;replace H:=Option.bind_eq_some_iff.mp H;obtain ⟨t102,A60,H⟩:=H;replace H:(if t102=true then ((impl_areFaults.f k l0 l1 l2).bind fun t103=>((impl_unless.f t103 1).bind fun t104=>(some t104))) else ((impl_unless.f false 1).bind fun t105=>(some t105)))=some r:=H;have A6:=am A60;clear A60
  by_cases c7:t102=true
  ·subst c7
   have H1:((impl_areFaults.f k l0 l1 l2).bind fun t103=>((impl_unless.f t103 1).bind fun t104=>(some t104)))=some r:=by rw [if_pos rfl] at H;exact H
   clear H;have H:=H1;clear H1;replace H:=Option.bind_eq_some_iff.mp H;obtain ⟨t103,A80,H⟩:=H;replace H:((impl_unless.f t103 1).bind fun t104=>(some t104))=some r:=H;have A8:=am A80;clear A80;replace H:=Option.bind_eq_some_iff.mp H;obtain ⟨t104,A90,H⟩:=H;replace H:(some t104)=some r:=H;have A9:=am A90;clear A90;obtain rfl:=Option.some.inj H
   go_enter Try.func25,Try.ntmps25
   go_wp2_with (first|((with_reducible refine gate_callee (f:=42) rfl ?_);refine goesL_ (some 8) rfl rfl Try.func42 zq21 rfl #[.slice A0 l0.length c0] rfl zq2 ?_;(with_reducible refine (impl_ValidLine.calls _ _ l0 true _ ?side1 ?side2 A4.out).mono ?_);(case side1=>exact zq10);(case side2=>exact HC0.out);rintro e w10 ⟨rfl,hb⟩;refine ⟨_,rfl,?_⟩;have n0_:=am (below_step zq0 hb);clear HB;have HB:=n0_;clear n0_;(try clear hb);(try clear hb2);(try clear hk);(try clear hi))|(go_at_call 43;(with_reducible refine (impl_ValidHoist.calls k _ _ l1 true _ ?side1 ?side2 A6.out).mono ?_);(case side1=>exact zq20);(case side2=>exact HC1.out);rintro e w11 ⟨rfl,hb⟩;have n0_:=am (below_step zq0 hb);clear HB;have HB:=n0_;clear n0_;(try clear hb);(try clear hb2);(try clear hk);(try clear hi))|(go_at_call 44;(with_reducible refine (impl_areFaults.calls k _ _ l0 _ _ l1 _ _ l2 t103 _ ?side1 ?side2 ?side3 ?side4 ?side5 ?side6 A8.out).mono ?_);(case side1=>exact zq17);(case side2=>exact HC0.out);(case side3=>exact zq20);(case side4=>exact HC1.out);(case side5=>exact zq40);(case side6=>exact HC2.out);rintro e w12 ⟨rfl,hb⟩;have n0_:=am (below_step zq0 hb);clear HB;have HB:=n0_;clear n0_;(try clear hb);(try clear hb2);(try clear hk);(try clear hi))|((with_reducible refine gate_callee (f:=37) rfl ?_);refine goesL_ (some 19) rfl rfl Try.func37 zq21 rfl #[.bool t103,.int .i64 1] rfl zq2 ?_;(with_reducible refine (impl_unless.calls t103 1 t104 _ A9.out).mono ?_);rintro e w' ⟨rfl,⟨nd,rfl⟩⟩;refine ⟨_,rfl,?_⟩))
   go_ret
   exact ⟨by first|rfl|(simp [errW_none,errW_some,IntKind.wrap_i64,wrap64];done)|(simp [errW_none,errW_some] <;> rfl)|(simp [*,errW_none,errW_some] <;> rfl),by repeat (first|(with_reducible first|exact HB.out|apply below_alloc|apply pw_below_drewN|apply below_drew1)|exact HB.out)⟩
  ·replace c7:=Bool.eq_false_iff.mpr c7;subst c7
   have H1:((impl_unless.f false 1).bind fun t105=>(some t105))=some r:=by rw [if_neg (show ¬ (false=true) by decide)] at H;exact H
   clear H;have H:=H1;clear H1;replace H:=Option.bind_eq_some_iff.mp H;obtain ⟨t105,A130,H⟩:=H;replace H:(some t105)=some r:=H;have A13:=am A130;clear A130;obtain rfl:=Option.some.inj H
   go_enter Try.func25,Try.ntmps25
   go_wp2_with (first|((with_reducible refine gate_callee (f:=42) rfl ?_);refine goesL_ (some 8) rfl rfl Try.func42 zq21 rfl #[.slice A0 l0.length c0] rfl zq2 ?_;(with_reducible refine (impl_ValidLine.calls _ _ l0 true _ ?side1 ?side2 A4.out).mono ?_);(case side1=>exact zq10);(case side2=>exact HC0.out);rintro e w14 ⟨rfl,hb⟩;refine ⟨_,rfl,?_⟩;have n0_:=am (below_step zq0 hb);clear HB;have HB:=n0_;clear n0_;(try clear hb);(try clear hb2);(try clear hk);(try clear hi))|(go_at_call 43;(with_reducible refine (impl_ValidHoist.calls k _ _ l1 false _ ?side1 ?side2 A6.out).mono ?_);(case side1=>exact zq20);(case side2=>exact HC1.out);rintro e w15 ⟨rfl,hb⟩;have n0_:=am (below_step zq0 hb);clear HB;have HB:=n0_;clear n0_;(try clear hb);(try clear hb2);(try clear hk);(try clear hi))|((with_reducible refine gate_callee (f:=37) rfl ?_);refine goesL_ (some 19) rfl rfl Try.func37 zq21 rfl #[.bool false,.int .i64 1] rfl zq2 ?_;(with_reducible refine (impl_unless.calls false 1 t105 _ A13.out).mono ?_);rintro e w' ⟨rfl,⟨nd,rfl⟩⟩;refine ⟨_,rfl,?_⟩))
   go_ret
   exact ⟨by first|rfl|(simp [errW_none,errW_some,IntKind.wrap_i64,wrap64];done)|(simp [errW_none,errW_some] <;> rfl)|(simp [*,errW_none,errW_some] <;> rfl),by repeat (first|(with_reducible first|exact HB.out|apply below_alloc|apply pw_below_drewN|apply below_drew1)|exact HB.out)⟩
 ·replace c5:=Bool.eq_false_iff.mpr c5;subst c5
  have H1:((impl_unless.f false 1).bind fun t106=>(some t106))=some r:=by rw [if_neg (show ¬ (false=true) by decide)] at H;exact H
  clear H;have H:=H1;clear H1;replace H:=Option.bind_eq_some_iff.mp H;obtain ⟨t106,A160,H⟩:=H;replace H:(some t106)=some r:=H;have A16:=am A160;clear A160;obtain rfl:=Option.some.inj H
  go_enter Try.func25,Try.ntmps25
  go_wp2_with (first|((with_reducible refine gate_callee (f:=42) rfl ?_);refine goesL_ (some 8) rfl rfl Try.func42 zq21 rfl #[.slice A0 l0.length c0] rfl zq2 ?_;(with_reducible refine (impl_ValidLine.calls _ _ l0 false _ ?side1 ?side2 A4.out).mono ?_);(case side1=>exact zq10);(case side2=>exact HC0.out);rintro e w17 ⟨rfl,hb⟩;refine ⟨_,rfl,?_⟩;have n0_:=am (below_step zq0 hb);clear HB;have HB:=n0_;clear n0_;(try clear hb);(try clear hb2);(try clear hk);(try clear hi))|((with_reducible refine gate_callee (f:=37) rfl ?_);refine goesL_ (some 19) rfl rfl Try.func37 zq21 rfl #[.bool false,.int .i64 1] rfl zq2 ?_;(with_reducible refine (impl_unless.calls false 1 t106 _ A16.out).mono ?_);rintro e w' ⟨rfl,⟨nd,rfl⟩⟩;refine ⟨_,rfl,?_⟩))
  go_ret
  exact ⟨by first|rfl|(simp [errW_none,errW_some,IntKind.wrap_i64,wrap64];done)|(simp [errW_none,errW_some] <;> rfl)|(simp [*,errW_none,errW_some] <;> rfl),by repeat (first|(with_reducible first|exact HB.out|apply below_alloc|apply pw_below_drewN|apply below_drew1)|exact HB.out)⟩
end Go.Proofs.Ytcajnbkbdbkpgac.G
end

section
namespace Go.Proofs.Ytcajnbkbdbkpgac.G
open Go.RowKit Go.Proofs.YtcajnbkbdbkpgacW.PrintWords Go.Proofs.YtcajnbkbdbkpgacW.PrintLast Go.Proofs.YtcajnbkbdbkpgacW.PrintMore
attribute [local go_sem] max2_int min2_int max_two min_two max_three min_three max_four min_four
set_option linter.unusedVariables false
set_option linter.unusedSimpArgs false
mutual
def impl_times.l0:Nat→List (S47)→List (S74)→Int→Int→Option ((List (S47)))
 | 0,_,_,_,_=>none
 | k + 1,x3,x10,x11,x12=>if x12 < x11 then (if 0≤x12 then (if x12 < (x10.length:Int) then (if x12=0 then (impl_times.j1 k x3 x12 x10 x11 x12 ((rd_T74 x10 x12).f0) ((rd_T74 x10 x12).f1) ((rd_T74 x10 x12).f2) (-1) 0 (-1) (-1)) else (impl_times.j1 k x3 x12 x10 x11 x12 ((rd_T74 x10 x12).f0) ((rd_T74 x10 x12).f1) ((rd_T74 x10 x12).f2) (-1) (-1) (-1) (-1))) else (none)) else (none)) else (some x3)
def impl_times.j1:Nat→List (S47)→Int→List (S74)→Int→Int→Int→Int→Int→Int→Int→Int→Int→Option ((List (S47)))
 | 0,_,_,_,_,_,_,_,_,_,_,_,_=>none
 | k + 1,x3,x4,x10,x11,x12,x106000,x106001,x106002,x107000,x107001,x107002,x107003=>impl_times.l1 k x3 x4 (mx (wrap64 (x4 - (wrap64 (x106000)))) 0) x10 x11 x12 x106000 x106001 x106002 x107000 x107001 x107002 x107003
def impl_times.l1:Nat→List (S47)→Int→Int→List (S74)→Int→Int→Int→Int→Int→Int→Int→Int→Int→Option ((List (S47)))
 | 0,_,_,_,_,_,_,_,_,_,_,_,_,_=>none
 | k + 1,x3,x4,x7,x10,x11,x12,x106000,x106001,x106002,x107000,x107001,x107002,x107003=>if x7 < x4 then (if 0≤x7 then (if x7 < (x3.length:Int) then (if ((rd_T47 x3 x7).f3)≥0 then (if x107001 < 0 then (impl_times.l1 k x3 x4 (wrap64 (x7 + 1)) x10 x11 x12 x106000 x106001 x106002 (IntKind.i8.wrap (x7)) ((rd_T47 x3 x7).f3) x107002 x107003) else (if ((rd_T47 x3 x7).f3) < x107001 then (impl_times.l1 k x3 x4 (wrap64 (x7 + 1)) x10 x11 x12 x106000 x106001 x106002 (IntKind.i8.wrap (x7)) ((rd_T47 x3 x7).f3) x107002 x107003) else (impl_times.l1 k x3 x4 (wrap64 (x7 + 1)) x10 x11 x12 x106000 x106001 x106002 x107000 x107001 x107002 x107003))) else (impl_times.l1 k x3 x4 (wrap64 (x7 + 1)) x10 x11 x12 x106000 x106001 x106002 x107000 x107001 x107002 x107003)) else (none)) else (none)) else (if x107001≥0 then (if x4=0 then (if x3.length < 4398046511104 then (impl_times.l0 k (x3 ++ [(⟨x107000,x107001,0,wrap64 ((wrap64 (x106002)))⟩:S47)]) x10 x11 (wrap64 (x12 + 1))) else (none)) else (if x3.length < 4398046511104 then (impl_times.l0 k (x3 ++ [(⟨x107000,x107001,wrap64 (x107001 + (wrap64 (x106001))),wrap64 ((wrap64 (x107001 + (wrap64 (x106001)))) + (wrap64 (x106002)))⟩:S47)]) x10 x11 (wrap64 (x12 + 1))) else (none))) else (if x3.length < 4398046511104 then (impl_times.l0 k (x3 ++ [(⟨x107000,x107001,x107002,x107003⟩:S47)]) x10 x11 (wrap64 (x12 + 1))) else (none)))
end
def impl_times.f (k:Nat) (l0:List (S74)):Option ((List (S47))):=impl_times.l0 k (([]:List (S47))) l0 (l0.length:Int) 0
set_option maxHeartbeats 8000000 in
set_option maxRecDepth 100000 in
theorem impl_times.calls (k:Nat) (A0:Option Addr) (c0:Nat) (l0:List (S74)) (r:List (S47)) (w:World) (hr0:Kd.C k74 w A0 l0.length l0) (hc0:l0.length≤c0) (h:impl_times.f k l0=some r) :
  Calls Try.prog 38 #[.slice A0 l0.length c0] w fun e w'=>∃ v0_:Value,e=.returned (v0_)∧Kd.R k47 47 w' w.heap.size (fun _=>True) v0_ r∧Below w.heap.size w w':=by
 have hu74:=Try.underlying74;have hu47:=Try.underlying47;have HR0:=am hr0;have HC0:=am hc0;clear hr0 hc0;have HB:=am (Below.refl w.heap.size w);have H:(impl_times.l0 k (([]:List (S47))) l0 (l0.length:Int) 0)=some r:=h;clear h;obtain ⟨y101,hy101⟩:∃ y_:List (S47),y_=(([]:List (S47))):=⟨_,rfl⟩
 replace H:(impl_times.l0 k y101 l0 (l0.length:Int) 0)=some r:=by first|(rw [hy101];with_reducible exact H)|(have H2_:=(Option.bind_some _ _).symm.trans H;rw [hy101];with_reducible exact H2_)|(have H2_:=(Option.bind_some _ _).symm.trans H;with_reducible exact H2_)|with_reducible exact H|(rw [hy101];exact H)|exact H
 have Ny101:=am hy101;clear hy101;have H':=am H;clear H
 go_enter Try.func38,Try.ntmps38
 go_wp2_with (first|((with_reducible refine gate_dst (N:=9) rfl ?_);refine Kd.R_lit k47 _ 47 ?hg (N:=9) ?hd (xs:=([]:List (S47))) (inner:=[]) (ok:=fun _=>True) (okp:=fun _=>True) ?hr ?hp (fun _ hk=>hk) trivial (Below.refl _ _) (Nat.le_refl _) (by simp) ?_;(case hd=>rfl);(case hg=>rfl);(case hr=>exact zq15);(case hp=>exact (Reps.none _ _));intro v102 w2 ho3 hb hg_ hnew_;clear hg_ hnew_;(first|rw [← Ny101.out] at ho3|(simp only [Int.reduceToNat] at ho3;rw [← Ny101.out] at ho3));have n0_:=am (Kd.R_lower ho3 (below_size zq0));have n1_:=am (below_step zq0 hb);clear HB;have HO103:=n0_;have HB:=n1_;clear n0_ n1_;clear hb ho3))
 go_loopg [3,12] k (fun kq v3 v12 w'=>∃ (x3_1:List (S47)) (x12_1:Int),v12=.int .i64 x12_1∧Aside0 (impl_times.l0 kq x3_1 l0 (l0.length:Int) x12_1=some r)∧Aside0 (kq≤k)∧Aside0 (Kd.R k47 47 w' w.heap.size (fun _=>True) v3 x3_1)∧Aside0 (Below w.heap.size w w'))
 case atStart=>exact ⟨(y101),(0),zq3,H',⟨Nat.le_refl _⟩,⟨by (with_reducible repeat (first|apply Kd.R_alloc|apply Kd.R_drewN|apply Kd.R_drew));exact HO103.out⟩,⟨by repeat (first|(with_reducible first|exact HB.out|apply below_alloc|apply pw_below_drewN|apply below_drew1)|exact HB.out)⟩⟩
 case round =>
  clear H';(try clear p2);(try clear c3);obtain ⟨x3_1,x12_1,rfl,HA,HK1,HO_3,HB⟩:=hrel
  cases gk with
  | zero=>exact absurd HA.out (by simp [impl_times.l0])
  | succ k1 =>
   have H:=HA.out;clear HA;simp only [impl_times.l0] at H
   by_cases c4:x12_1 < (l0.length:Int)
   ·rw [if_pos c4] at H;have c4b0:decide (x12_1 < (l0.length:Int))=true:=decide_eq_true c4;clear c4
    by_cases c5:0≤x12_1
    ·rw [if_pos c5] at H;have c5b0:decide (0≤x12_1)=true:=decide_eq_true c5;clear c5
     by_cases c6:x12_1 < (l0.length:Int)
     ·rw [if_pos c6] at H;have c6b0:decide (x12_1 < (l0.length:Int))=true:=decide_eq_true c6;clear c6;have HC7:=am H;clear H;have p104:0≤(x12_1:Int):=of_decide_eq_true zq1;have q104:x12_1 < (l0.length:Int):=of_decide_eq_true zq1;obtain ⟨ad104,e104,hx104_0,hx104_1,hx104_2⟩:=at_T74 HR0.out x12_1 p104 q104;cases e104;replace hx104_0:=(HB.out.cell (World.block_lt_of_cell? w _ hx104_0)).trans hx104_0;replace hx104_1:=(HB.out.cell (World.block_lt_of_cell? w _ hx104_1)).trans hx104_1;replace hx104_2:=(HB.out.cell (World.block_lt_of_cell? w _ hx104_2)).trans hx104_2;replace p104:=eq_true p104;replace q104:=eq_true q104
      go_upto_if 19 with (first|((with_reducible refine gate_dst (N:=5) rfl ?_);refine box_event ?hg (N:=5) ?hd (cs:=#[.int .i8 0,.int .i8 0,.int .i8 0]) (t:=74) ?hr ?_;(case hd=>rfl);(case hg=>rfl);(case hr=>exact zq15);intro gb105 hg w8 hbox hb;have n0_:=am (Kd.R_below zq19 hb);have n1_:=am (below_step zq0 hb);have n2_:=am (hbox);have n3_:=am ((by rw [hg];exact (below_size zq0):w.heap.size≤gb105));have n4_:=am ((by rw [hg];exact (below_size zq0):w.heap.size≤gb105));clear HO_3;clear HB;have HO_3:=n0_;have HB:=n1_;have BK105:=n2_;have GW105:=n3_;have GE105:=n4_;clear n0_ n1_ n2_ n3_ n4_;clear hb hbox hg;have hcz9_0:w8.cell? ⟨gb105,0,none⟩=some (.int .i8 0):=(blk_cell BK105.out 0).trans rfl;have hcz9_1:w8.cell? ⟨gb105,1,none⟩=some (.int .i8 0):=(blk_cell BK105.out 1).trans rfl;have hcz9_2:w8.cell? ⟨gb105,2,none⟩=some (.int .i8 0):=(blk_cell BK105.out 2).trans rfl;have hfz9_0:=blk_frozen BK105.out 0;have hfz9_1:=blk_frozen BK105.out 1;have hfz9_2:=blk_frozen BK105.out 2)|((with_reducible refine gate_dst (N:=6) rfl ?_);refine box_event ?hg (N:=6) ?hd (cs:=#[.int .i8 0,.int .i64 0,.int .i64 0,.int .i64 0]) (t:=47) ?hr ?_;(case hd=>rfl);(case hg=>rfl);(case hr=>exact zq15);intro gb106 hg w10 hbox hb;have n0_:=am (Kd.R_below (Kd.R_elderB (by (with_reducible repeat (first|apply Kd.R_alloc|apply Kd.R_drewN|apply Kd.R_drew));exact (Kd.R_mono (Kd.R_far (p:=⟨gb105,2,none⟩) (Kd.R_far (p:=⟨gb105,1,none⟩) (Kd.R_far (p:=⟨gb105,0,none⟩) (Kd.R_types HO_3.out BK105.out (by decide)) (fun _ hk=>hk.2) (.int .i8 ((rd_T74 l0 x12_1).f0))) (fun _ hk=>hk.2) (.int .i8 ((rd_T74 l0 x12_1).f1))) (fun _ hk=>hk.2) (.int .i8 ((rd_T74 l0 x12_1).f2))) (fun _ h_=>h_.1))) gb106 (Nat.le_of_eq hg.symm)) hb);have n1_:=am (blk_below (g:=gb105) (o:=.cells #[.int .i8 ((rd_T74 l0 x12_1).f0),.int .i8 ((rd_T74 l0 x12_1).f1),.int .i8 ((rd_T74 l0 x12_1).f2)] 74 (0,0)) zq32 hb);have n2_:=am (below_step zq101 hb);have n3_:=am (hbox);have n4_:=am ((by rw [hg];exact (below_size zq101):w.heap.size≤gb106));have n5_:=am ((by rw [hg];exact (below_size zq101):w.heap.size≤gb106));have n6_:=am ((by rw [hg];exact Nat.ne_of_lt (blk_lt (g:=gb105) (o:=.cells #[.int .i8 ((rd_T74 l0 x12_1).f0),.int .i8 ((rd_T74 l0 x12_1).f1),.int .i8 ((rd_T74 l0 x12_1).f2)] 74 (0,0)) zq32):gb105≠gb106));have n7_:=am ((by rw [hg];exact Nat.ne_of_gt (blk_lt (g:=gb105) (o:=.cells #[.int .i8 ((rd_T74 l0 x12_1).f0),.int .i8 ((rd_T74 l0 x12_1).f1),.int .i8 ((rd_T74 l0 x12_1).f2)] 74 (0,0)) zq32):gb106≠gb105));clear HO_3;clear BK105;clear HB;have HO_3:=n0_;have BK105:=n1_;have HB:=n2_;have BK106:=n3_;have GW106:=n4_;have GE106:=n5_;have NB105_106:=n6_;have NB106_105:=n7_;clear n0_ n1_ n2_ n3_ n4_ n5_ n6_ n7_;clear hb hbox hg;have hnb11:=NB106_105.out;have hnc11:=NB105_106.out;have hcz12_0:w10.cell? ⟨gb106,0,none⟩=some (.int .i8 0):=(blk_cell BK106.out 0).trans rfl;have hcz12_1:w10.cell? ⟨gb106,1,none⟩=some (.int .i64 0):=(blk_cell BK106.out 1).trans rfl;have hcz12_2:w10.cell? ⟨gb106,2,none⟩=some (.int .i64 0):=(blk_cell BK106.out 2).trans rfl;have hcz12_3:w10.cell? ⟨gb106,3,none⟩=some (.int .i64 0):=(blk_cell BK106.out 3).trans rfl;have hfz12_0:=blk_frozen BK106.out 0;have hfz12_1:=blk_frozen BK106.out 1;have hfz12_2:=blk_frozen BK106.out 2;have hfz12_3:=blk_frozen BK106.out 3))
      (try simp only [Act.put,List.setIfInBounds_toArray,List.set_cons_zero,List.set_cons_succ])
      go_cut [] (fun wc=>∃ (kq:Nat) (x107001_6:Int),Aside0 (impl_times.j1 kq x3_1 x12_1 l0 (l0.length:Int) x12_1 ((rd_T74 l0 x12_1).f0) ((rd_T74 l0 x12_1).f1) ((rd_T74 l0 x12_1).f2) (-1) x107001_6 (-1) (-1)=some r)∧Aside0 (kq≤k1)∧Aside0 (Kd.R k47 47 wc w.heap.size (fun k_=>k_≠gb106) u3 x3_1)∧Aside0 (wc.heap[gb105]?=some (.cells #[.int .i8 ((rd_T74 l0 x12_1).f0),.int .i8 ((rd_T74 l0 x12_1).f1),.int .i8 ((rd_T74 l0 x12_1).f2)] 74 (0,0)))∧Aside0 (wc.heap[gb106]?=some (.cells #[.int .i8 (-1),.int .i64 x107001_6,.int .i64 (-1),.int .i64 (-1)] 47 (0,0)))∧Aside0 (Below w.heap.size w wc))
      case first =>
       have H:=HC7.out;clear HC7
       by_cases c13:x12_1=0
       ·rw [if_pos c13] at H;have c13b0:(x12_1 == 0)=true:=beq_iff_eq.mpr c13;have c13b1:(x12_1 != 0)=false:=bne_eq_false_iff_eq.mpr c13;clear c13;(first|rw [c13b0]|(simp only [i64_w,i32_w];rw [c13b0])|skip);have H':=am H;clear H;have hnb14:=NB106_105.out;have hnc14:=NB105_106.out;have hcz15_0:w10.cell? ⟨gb106,0,none⟩=some (.int .i8 0):=(blk_cell BK106.out 0).trans rfl;have hcz15_1:w10.cell? ⟨gb106,1,none⟩=some (.int .i64 0):=(blk_cell BK106.out 1).trans rfl;have hcz15_2:w10.cell? ⟨gb106,2,none⟩=some (.int .i64 0):=(blk_cell BK106.out 2).trans rfl;have hcz15_3:w10.cell? ⟨gb106,3,none⟩=some (.int .i64 0):=(blk_cell BK106.out 3).trans rfl;have hfz15_0:=blk_frozen BK106.out 0;have hfz15_1:=blk_frozen BK106.out 1;have hfz15_2:=blk_frozen BK106.out 2;have hfz15_3:=blk_frozen BK106.out 3
        go_wp2
        go_meet
        case rel=>exact ⟨_,(0),H',⟨by have:=HK1.out;first|omega|exact Nat.le_refl _⟩,⟨by (with_reducible repeat (first|apply Kd.R_alloc|apply Kd.R_drewN|apply Kd.R_drew));exact Kd.R_mono (Kd.R_far (p:=⟨gb106,1,none⟩) (Kd.R_far (p:=⟨gb106,3,none⟩) (Kd.R_far (p:=⟨gb106,2,none⟩) (Kd.R_far (p:=⟨gb106,1,none⟩) (Kd.R_far (p:=⟨gb106,0,none⟩) (Kd.R_mono HO_3.out (fun k_ hk=>(⟨hk,hk.2⟩:_∧k_≠gb106))) (fun _ hk=>hk.2) (.int .i8 (-1))) (fun _ hk=>hk.2) (.int .i64 (-1))) (fun _ hk=>hk.2) (.int .i64 (-1))) (fun _ hk=>hk.2) (.int .i64 (-1))) (fun _ hk=>hk.2) (.int .i64 0)) (fun _ hk=>hk.1.2)⟩,⟨by (with_reducible repeat (first|refine blk_drewN ?_ _|refine blk_drew ?_|refine blk_alloc ?_ _));refine blk_far ?_ NB105_106.out _;(with_reducible repeat (first|refine blk_drewN ?_ _|refine blk_drew ?_|refine blk_alloc ?_ _));refine blk_far ?_ NB105_106.out _;(with_reducible repeat (first|refine blk_drewN ?_ _|refine blk_drew ?_|refine blk_alloc ?_ _));refine blk_far ?_ NB105_106.out _;(with_reducible repeat (first|refine blk_drewN ?_ _|refine blk_drew ?_|refine blk_alloc ?_ _));refine blk_far ?_ NB105_106.out _;(with_reducible repeat (first|refine blk_drewN ?_ _|refine blk_drew ?_|refine blk_alloc ?_ _));refine blk_far ?_ NB105_106.out _;(with_reducible repeat (first|refine blk_drewN ?_ _|refine blk_drew ?_|refine blk_alloc ?_ _));exact BK105.out⟩,⟨by (with_reducible repeat (first|refine blk_drewN ?_ _|refine blk_drew ?_|refine blk_alloc ?_ _));refine blk_put (cs:=#[.int .i8 (-1),.int .i64 (-1),.int .i64 (-1),.int .i64 (-1)]) ?_ 1 _ rfl;(with_reducible repeat (first|refine blk_drewN ?_ _|refine blk_drew ?_|refine blk_alloc ?_ _));refine blk_put (cs:=#[.int .i8 (-1),.int .i64 (-1),.int .i64 (-1),.int .i64 0]) ?_ 3 _ rfl;(with_reducible repeat (first|refine blk_drewN ?_ _|refine blk_drew ?_|refine blk_alloc ?_ _));refine blk_put (cs:=#[.int .i8 (-1),.int .i64 (-1),.int .i64 0,.int .i64 0]) ?_ 2 _ rfl;(with_reducible repeat (first|refine blk_drewN ?_ _|refine blk_drew ?_|refine blk_alloc ?_ _));refine blk_put (cs:=#[.int .i8 (-1),.int .i64 0,.int .i64 0,.int .i64 0]) ?_ 1 _ rfl;(with_reducible repeat (first|refine blk_drewN ?_ _|refine blk_drew ?_|refine blk_alloc ?_ _));refine blk_put (cs:=#[.int .i8 0,.int .i64 0,.int .i64 0,.int .i64 0]) ?_ 0 _ rfl;(with_reducible repeat (first|refine blk_drewN ?_ _|refine blk_drew ?_|refine blk_alloc ?_ _));exact BK106.out⟩,⟨by repeat (first|(with_reducible first|exact HB.out|apply below_alloc|apply pw_below_drewN|apply below_drew1|refine below_set ?_ GE105.out|refine below_set ?_ GE106.out)|exact HB.out)⟩⟩
       ·rw [if_neg c13] at H;have c13b0:(x12_1 == 0)=false:=beq_eq_false_iff_ne.mpr c13;have c13b1:(x12_1 != 0)=true:=bne_iff_ne.mpr c13;(first|rw [c13b0]|(simp only [i64_w,i32_w];rw [c13b0])|skip);have H':=am H;clear H
        go_wp2
        go_meet
        case rel=>exact ⟨_,((-1)),H',⟨by have:=HK1.out;first|omega|exact Nat.le_refl _⟩,⟨by (with_reducible repeat (first|apply Kd.R_alloc|apply Kd.R_drewN|apply Kd.R_drew));exact Kd.R_mono (Kd.R_far (p:=⟨gb106,3,none⟩) (Kd.R_far (p:=⟨gb106,2,none⟩) (Kd.R_far (p:=⟨gb106,1,none⟩) (Kd.R_far (p:=⟨gb106,0,none⟩) (Kd.R_mono HO_3.out (fun k_ hk=>(⟨hk,hk.2⟩:_∧k_≠gb106))) (fun _ hk=>hk.2) (.int .i8 (-1))) (fun _ hk=>hk.2) (.int .i64 (-1))) (fun _ hk=>hk.2) (.int .i64 (-1))) (fun _ hk=>hk.2) (.int .i64 (-1))) (fun _ hk=>hk.1.2)⟩,⟨by (with_reducible repeat (first|refine blk_drewN ?_ _|refine blk_drew ?_|refine blk_alloc ?_ _));refine blk_far ?_ NB105_106.out _;(with_reducible repeat (first|refine blk_drewN ?_ _|refine blk_drew ?_|refine blk_alloc ?_ _));refine blk_far ?_ NB105_106.out _;(with_reducible repeat (first|refine blk_drewN ?_ _|refine blk_drew ?_|refine blk_alloc ?_ _));refine blk_far ?_ NB105_106.out _;(with_reducible repeat (first|refine blk_drewN ?_ _|refine blk_drew ?_|refine blk_alloc ?_ _));refine blk_far ?_ NB105_106.out _;(with_reducible repeat (first|refine blk_drewN ?_ _|refine blk_drew ?_|refine blk_alloc ?_ _));exact BK105.out⟩,⟨by (with_reducible repeat (first|refine blk_drewN ?_ _|refine blk_drew ?_|refine blk_alloc ?_ _));refine blk_put (cs:=#[.int .i8 (-1),.int .i64 (-1),.int .i64 (-1),.int .i64 0]) ?_ 3 _ rfl;(with_reducible repeat (first|refine blk_drewN ?_ _|refine blk_drew ?_|refine blk_alloc ?_ _));refine blk_put (cs:=#[.int .i8 (-1),.int .i64 (-1),.int .i64 0,.int .i64 0]) ?_ 2 _ rfl;(with_reducible repeat (first|refine blk_drewN ?_ _|refine blk_drew ?_|refine blk_alloc ?_ _));refine blk_put (cs:=#[.int .i8 (-1),.int .i64 0,.int .i64 0,.int .i64 0]) ?_ 1 _ rfl;(with_reducible repeat (first|refine blk_drewN ?_ _|refine blk_drew ?_|refine blk_alloc ?_ _));refine blk_put (cs:=#[.int .i8 0,.int .i64 0,.int .i64 0,.int .i64 0]) ?_ 0 _ rfl;(with_reducible repeat (first|refine blk_drewN ?_ _|refine blk_drew ?_|refine blk_alloc ?_ _));exact BK106.out⟩,⟨by repeat (first|(with_reducible first|exact HB.out|apply below_alloc|apply pw_below_drewN|apply below_drew1|refine below_set ?_ GE105.out|refine below_set ?_ GE106.out)|exact HB.out)⟩⟩
      case rest =>
       clear HC7;(try clear c1);(try clear p1);(try clear q1);(try clear hx1);(try clear p2);(try clear c3);(try clear c4);(try clear c4b0);(try clear c5);(try clear c5b0);(try clear c6);(try clear c6b0);(try clear p10);(try clear q10);(try clear hx10);(try clear c11);(try clear c13);(try clear c13b0);(try clear c13b1);(try clear c14);(try clear hcz12_0);(try clear hcz12_1);(try clear hcz12_2);(try clear hcz12_3);(try clear hcz15_0);(try clear hcz15_1);(try clear hcz15_2);(try clear hcz15_3);(try clear hcz9_0);(try clear hcz9_1);(try clear hcz9_2);(try clear hfz12_0);(try clear hfz12_1);(try clear hfz12_2);(try clear hfz12_3);(try clear hfz15_0);(try clear hfz15_1);(try clear hfz15_2);(try clear hfz15_3);(try clear hfz9_0);(try clear hfz9_1);(try clear hfz9_2);(try clear hx104_0);(try clear hx104_1);(try clear hx104_2);(try clear p104);(try clear p2);(try clear q104);obtain ⟨kq,x107001_6,HA,HJ6,HO_3,BK105,BK106,HB⟩:=hcut
       cases kq with
       | zero=>exact absurd HA.out (by simp [impl_times.j1])
       | succ kj6 =>
        have H:=HA.out;clear HA;simp only [impl_times.j1] at H;obtain ⟨ji16,hji16⟩:∃ j_:Int,(mx (wrap64 (x12_1 - (wrap64 (((rd_T74 l0 x12_1).f0))))) 0)=j_:=⟨_,rfl⟩
        replace H:(impl_times.l1 kj6 x3_1 x12_1 ji16 l0 (l0.length:Int) x12_1 ((rd_T74 l0 x12_1).f0) ((rd_T74 l0 x12_1).f1) ((rd_T74 l0 x12_1).f2) (-1) x107001_6 (-1) (-1))=some r:=by first|(rw [hji16] at H;exact H)|(simp only [hji16] at H ⊢;exact H)
        have hji16_:(if (wrap64 (x12_1 - (wrap64 (((rd_T74 l0 x12_1).f0))))) < 0 then 0 else (wrap64 (x12_1 - (wrap64 (((rd_T74 l0 x12_1).f0))))))=ji16:=hji16;have H':=am H;clear H;have hnb17:=NB105_106.out;have hnc17:=NB106_105.out;have hcz18_0:wc.cell? ⟨gb105,0,none⟩=some (.int .i8 ((rd_T74 l0 x12_1).f0)):=(blk_cell BK105.out 0).trans rfl;have hcz18_1:wc.cell? ⟨gb105,1,none⟩=some (.int .i8 ((rd_T74 l0 x12_1).f1)):=(blk_cell BK105.out 1).trans rfl;have hcz18_2:wc.cell? ⟨gb105,2,none⟩=some (.int .i8 ((rd_T74 l0 x12_1).f2)):=(blk_cell BK105.out 2).trans rfl;have hfz18_0:=blk_frozen BK105.out 0;have hfz18_1:=blk_frozen BK105.out 1;have hfz18_2:=blk_frozen BK105.out 2
        go_wp2
        go_loopg [7] kj6 (fun kq v7 w'=>∃ (x7_3:Int) (x107000_3:Int) (x107001_3:Int),v7=.int .i64 x7_3∧Aside0 (impl_times.l1 kq x3_1 x12_1 x7_3 l0 (l0.length:Int) x12_1 ((rd_T74 l0 x12_1).f0) ((rd_T74 l0 x12_1).f1) ((rd_T74 l0 x12_1).f2) x107000_3 x107001_3 (-1) (-1)=some r)∧Aside0 (kq≤kj6)∧Aside0 (Kd.R k47 47 w' w.heap.size (fun k_=>k_≠gb106) u3 x3_1)∧Aside0 (w'.heap[gb105]?=some (.cells #[.int .i8 ((rd_T74 l0 x12_1).f0),.int .i8 ((rd_T74 l0 x12_1).f1),.int .i8 ((rd_T74 l0 x12_1).f2)] 74 (0,0)))∧Aside0 (w'.heap[gb106]?=some (.cells #[.int .i8 x107000_3,.int .i64 x107001_3,.int .i64 (-1),.int .i64 (-1)] 47 (0,0)))∧Aside0 (Below w.heap.size w w'))
        case atStart=>exact ⟨(ji16),((-1)),(x107001_6),(by first|rfl|(simp only [IntKind.wrap_i64,wrap64];done)|(simp;done)|(simp only [← hji16] <;> (first|rfl|simp))|(simp [*];done)),H',⟨Nat.le_refl _⟩,⟨by (with_reducible repeat (first|apply Kd.R_alloc|apply Kd.R_drewN|apply Kd.R_drew));exact HO_3.out⟩,⟨by (with_reducible repeat (first|refine blk_drewN ?_ _|refine blk_drew ?_|refine blk_alloc ?_ _));exact BK105.out⟩,⟨by (with_reducible repeat (first|refine blk_drewN ?_ _|refine blk_drew ?_|refine blk_alloc ?_ _));exact BK106.out⟩,⟨by repeat (first|(with_reducible first|exact HB.out|apply below_alloc|apply pw_below_drewN|apply below_drew1|refine below_set ?_ GE105.out|refine below_set ?_ GE106.out)|exact HB.out)⟩⟩
        case round =>
         clear H';(try clear c1);(try clear p1);(try clear q1);(try clear hx1);(try clear p2);(try clear c3);(try clear c4);(try clear c4b0);(try clear c5);(try clear c5b0);(try clear c6);(try clear c6b0);(try clear p6);(try clear p10);(try clear q10);(try clear hx10);(try clear c11);(try clear c13);(try clear c13b0);(try clear c13b1);(try clear c14);(try clear c17);(try clear hcz12_0);(try clear hcz12_1);(try clear hcz12_2);(try clear hcz12_3);(try clear hcz15_0);(try clear hcz15_1);(try clear hcz15_2);(try clear hcz15_3);(try clear hcz18_0);(try clear hcz18_1);(try clear hcz18_2);(try clear hcz9_0);(try clear hcz9_1);(try clear hcz9_2);(try clear hfz12_0);(try clear hfz12_1);(try clear hfz12_2);(try clear hfz12_3);(try clear hfz15_0);(try clear hfz15_1);(try clear hfz15_2);(try clear hfz15_3);(try clear hfz18_0);(try clear hfz18_1);(try clear hfz18_2);(try clear hfz9_0);(try clear hfz9_1);(try clear hfz9_2);(try clear hx104_0);(try clear hx104_1);(try clear hx104_2);(try clear p1);(try clear p10);(try clear p104);(try clear p2);(try clear q1);(try clear q10);(try clear q104);obtain ⟨x7_3,x107000_3,x107001_3,rfl,HA,HK3,HO_3,BK105,BK106,HB⟩:=hrel
         cases gk with
         | zero=>exact absurd HA.out (by simp [impl_times.l1])
         | succ k3 =>
          have H:=HA.out;clear HA;simp only [impl_times.l1] at H
          by_cases c19:x7_3 < x12_1
          ·rw [if_pos c19] at H;have c19b0:decide (x7_3 < x12_1)=true:=decide_eq_true c19;clear c19
           by_cases c20:0≤x7_3
           ·rw [if_pos c20] at H;have c20b0:decide (0≤x7_3)=true:=decide_eq_true c20;clear c20
            by_cases c21:x7_3 < (x3_1.length:Int)
            ·rw [if_pos c21] at H;have c21b0:decide (x7_3 < (x3_1.length:Int))=true:=decide_eq_true c21;clear c21
             by_cases c22:((rd_T47 x3_1 x7_3).f3)≥0
             ·rw [if_pos c22] at H;have c22b0:decide (0≤((rd_T47 x3_1 x7_3).f3))=true:=decide_eq_true c22;clear c22
              by_cases c23:x107001_3 < 0
              ·rw [if_pos c23] at H;have c23b0:decide (x107001_3 < 0)=true:=decide_eq_true c23;clear c23;have H':=am H;clear H;obtain ⟨Ao24,co24,eo24⟩:=Kd.R_slice HO_3.out;subst eo24;have p107:0≤(x7_3:Int):=of_decide_eq_true zq1;have q107:x7_3 < (x3_1.length:Int):=of_decide_eq_true zq1;obtain ⟨ad107,e107,hx107_0,hx107_1,hx107_2,hx107_3⟩:=at_T47 (Kd.R_reads' HO_3.out).2.2 x7_3 p107 q107;cases e107;replace p107:=eq_true p107;replace q107:=eq_true q107;have hnb25:=NB106_105.out;have hnc25:=NB105_106.out;have hcz26_0:wr.cell? ⟨gb106,0,none⟩=some (.int .i8 x107000_3):=(blk_cell BK106.out 0).trans rfl;have hcz26_1:wr.cell? ⟨gb106,1,none⟩=some (.int .i64 x107001_3):=(blk_cell BK106.out 1).trans rfl;have hcz26_2:wr.cell? ⟨gb106,2,none⟩=some (.int .i64 (-1)):=(blk_cell BK106.out 2).trans rfl;have hcz26_3:wr.cell? ⟨gb106,3,none⟩=some (.int .i64 (-1)):=(blk_cell BK106.out 3).trans rfl;have hfz26_0:=blk_frozen BK106.out 0;have hfz26_1:=blk_frozen BK106.out 1;have hfz26_2:=blk_frozen BK106.out 2;have hfz26_3:=blk_frozen BK106.out 3
               go_wp2
               go_roundg k3
               case measure=>have:=HK1.out;have:=HJ6.out;have:=HK3.out;omega
               case rel=>exact ⟨(wrap64 (x7_3 + 1)),(IntKind.i8.wrap (x7_3)),((rd_T47 x3_1 x7_3).f3),zq3,H',⟨by have:=HK1.out;have:=HJ6.out;have:=HK3.out;omega⟩,⟨by (with_reducible repeat (first|apply Kd.R_alloc|apply Kd.R_drewN|apply Kd.R_drew));exact Kd.R_mono (Kd.R_far (p:=⟨gb106,1,none⟩) (Kd.R_far (p:=⟨gb106,0,none⟩) (Kd.R_mono HO_3.out (fun k_ hk=>(⟨hk,hk⟩:_∧k_≠gb106))) (fun _ hk=>hk.2) (.int .i8 (IntKind.i8.wrap (x7_3)))) (fun _ hk=>hk.2) (.int .i64 ((rd_T47 x3_1 x7_3).f3))) (fun _ hk=>hk.1)⟩,⟨by (with_reducible repeat (first|refine blk_drewN ?_ _|refine blk_drew ?_|refine blk_alloc ?_ _));refine blk_far ?_ NB105_106.out _;(with_reducible repeat (first|refine blk_drewN ?_ _|refine blk_drew ?_|refine blk_alloc ?_ _));refine blk_far ?_ NB105_106.out _;(with_reducible repeat (first|refine blk_drewN ?_ _|refine blk_drew ?_|refine blk_alloc ?_ _));exact BK105.out⟩,⟨by (with_reducible repeat (first|refine blk_drewN ?_ _|refine blk_drew ?_|refine blk_alloc ?_ _));refine blk_put (cs:=#[.int .i8 (IntKind.i8.wrap (x7_3)),.int .i64 x107001_3,.int .i64 (-1),.int .i64 (-1)]) ?_ 1 _ rfl;(with_reducible repeat (first|refine blk_drewN ?_ _|refine blk_drew ?_|refine blk_alloc ?_ _));refine blk_put (cs:=#[.int .i8 x107000_3,.int .i64 x107001_3,.int .i64 (-1),.int .i64 (-1)]) ?_ 0 _ rfl;(with_reducible repeat (first|refine blk_drewN ?_ _|refine blk_drew ?_|refine blk_alloc ?_ _));exact BK106.out⟩,⟨by repeat (first|(with_reducible first|exact HB.out|apply below_alloc|apply pw_below_drewN|apply below_drew1|refine below_set ?_ GE105.out|refine below_set ?_ GE106.out)|exact HB.out)⟩⟩
              ·rw [if_neg c23] at H;have c23b0:decide (x107001_3 < 0)=false:=decide_eq_false c23;clear c23
               by_cases c27:((rd_T47 x3_1 x7_3).f3) < x107001_3
               ·rw [if_pos c27] at H;have c27b0:decide (((rd_T47 x3_1 x7_3).f3) < x107001_3)=true:=decide_eq_true c27;clear c27;have H':=am H;clear H;obtain ⟨Ao28,co28,eo28⟩:=Kd.R_slice HO_3.out;subst eo28;have p107:0≤(x7_3:Int):=of_decide_eq_true zq1;have q107:x7_3 < (x3_1.length:Int):=of_decide_eq_true zq1;obtain ⟨ad107,e107,hx107_0,hx107_1,hx107_2,hx107_3⟩:=at_T47 (Kd.R_reads' HO_3.out).2.2 x7_3 p107 q107;cases e107;replace p107:=eq_true p107;replace q107:=eq_true q107;have hnb29:=NB106_105.out;have hnc29:=NB105_106.out;have hcz30_0:wr.cell? ⟨gb106,0,none⟩=some (.int .i8 x107000_3):=(blk_cell BK106.out 0).trans rfl;have hcz30_1:wr.cell? ⟨gb106,1,none⟩=some (.int .i64 x107001_3):=(blk_cell BK106.out 1).trans rfl;have hcz30_2:wr.cell? ⟨gb106,2,none⟩=some (.int .i64 (-1)):=(blk_cell BK106.out 2).trans rfl;have hcz30_3:wr.cell? ⟨gb106,3,none⟩=some (.int .i64 (-1)):=(blk_cell BK106.out 3).trans rfl;have hfz30_0:=blk_frozen BK106.out 0;have hfz30_1:=blk_frozen BK106.out 1;have hfz30_2:=blk_frozen BK106.out 2;have hfz30_3:=blk_frozen BK106.out 3
                go_wp2
                go_roundg k3
                case measure=>have:=HK1.out;have:=HJ6.out;have:=HK3.out;omega
                case rel=>exact ⟨(wrap64 (x7_3 + 1)),(IntKind.i8.wrap (x7_3)),((rd_T47 x3_1 x7_3).f3),zq3,H',⟨by have:=HK1.out;have:=HJ6.out;have:=HK3.out;omega⟩,⟨by (with_reducible repeat (first|apply Kd.R_alloc|apply Kd.R_drewN|apply Kd.R_drew));exact Kd.R_mono (Kd.R_far (p:=⟨gb106,1,none⟩) (Kd.R_far (p:=⟨gb106,0,none⟩) (Kd.R_mono HO_3.out (fun k_ hk=>(⟨hk,hk⟩:_∧k_≠gb106))) (fun _ hk=>hk.2) (.int .i8 (IntKind.i8.wrap (x7_3)))) (fun _ hk=>hk.2) (.int .i64 ((rd_T47 x3_1 x7_3).f3))) (fun _ hk=>hk.1)⟩,⟨by (with_reducible repeat (first|refine blk_drewN ?_ _|refine blk_drew ?_|refine blk_alloc ?_ _));refine blk_far ?_ NB105_106.out _;(with_reducible repeat (first|refine blk_drewN ?_ _|refine blk_drew ?_|refine blk_alloc ?_ _));refine blk_far ?_ NB105_106.out _;(with_reducible repeat (first|refine blk_drewN ?_ _|refine blk_drew ?_|refine blk_alloc ?_ _));exact BK105.out⟩,⟨by (with_reducible repeat (first|refine blk_drewN ?_ _|refine blk_drew ?_|refine blk_alloc ?_ _));refine blk_put (cs:=#[.int .i8 (IntKind.i8.wrap (x7_3)),.int .i64 x107001_3,.int .i64 (-1),.int .i64 (-1)]) ?_ 1 _ rfl;(with_reducible repeat (first|refine blk_drewN ?_ _|refine blk_drew ?_|refine blk_alloc ?_ _));refine blk_put (cs:=#[.int .i8 x107000_3,.int .i64 x107001_3,.int .i64 (-1),.int .i64 (-1)]) ?_ 0 _ rfl;(with_reducible repeat (first|refine blk_drewN ?_ _|refine blk_drew ?_|refine blk_alloc ?_ _));exact BK106.out⟩,⟨by repeat (first|(with_reducible first|exact HB.out|apply below_alloc|apply pw_below_drewN|apply below_drew1|refine below_set ?_ GE105.out|refine below_set ?_ GE106.out)|exact HB.out)⟩⟩
               ·rw [if_neg c27] at H;have c27b0:decide (((rd_T47 x3_1 x7_3).f3) < x107001_3)=false:=decide_eq_false c27;clear c27;have H':=am H;clear H;obtain ⟨Ao31,co31,eo31⟩:=Kd.R_slice HO_3.out;subst eo31;have p107:0≤(x7_3:Int):=of_decide_eq_true zq1;have q107:x7_3 < (x3_1.length:Int):=of_decide_eq_true zq1;obtain ⟨ad107,e107,hx107_0,hx107_1,hx107_2,hx107_3⟩:=at_T47 (Kd.R_reads' HO_3.out).2.2 x7_3 p107 q107;cases e107;replace p107:=eq_true p107;replace q107:=eq_true q107;have hnb32:=NB106_105.out;have hnc32:=NB105_106.out;have hcz33_0:wr.cell? ⟨gb106,0,none⟩=some (.int .i8 x107000_3):=(blk_cell BK106.out 0).trans rfl;have hcz33_1:wr.cell? ⟨gb106,1,none⟩=some (.int .i64 x107001_3):=(blk_cell BK106.out 1).trans rfl;have hcz33_2:wr.cell? ⟨gb106,2,none⟩=some (.int .i64 (-1)):=(blk_cell BK106.out 2).trans rfl;have hcz33_3:wr.cell? ⟨gb106,3,none⟩=some (.int .i64 (-1)):=(blk_cell BK106.out 3).trans rfl;have hfz33_0:=blk_frozen BK106.out 0;have hfz33_1:=blk_frozen BK106.out 1;have hfz33_2:=blk_frozen BK106.out 2;have hfz33_3:=blk_frozen BK106.out 3
                go_wp2
                go_roundg k3
                case measure=>have:=HK1.out;have:=HJ6.out;have:=HK3.out;omega
                case rel=>exact ⟨(wrap64 (x7_3 + 1)),(x107000_3),(x107001_3),zq3,H',⟨by have:=HK1.out;have:=HJ6.out;have:=HK3.out;omega⟩,⟨by (with_reducible repeat (first|apply Kd.R_alloc|apply Kd.R_drewN|apply Kd.R_drew));exact HO_3.out⟩,⟨by (with_reducible repeat (first|refine blk_drewN ?_ _|refine blk_drew ?_|refine blk_alloc ?_ _));exact BK105.out⟩,⟨by (with_reducible repeat (first|refine blk_drewN ?_ _|refine blk_drew ?_|refine blk_alloc ?_ _));exact BK106.out⟩,⟨by repeat (first|(with_reducible first|exact HB.out|apply below_alloc|apply pw_below_drewN|apply below_drew1|refine below_set ?_ GE105.out|refine below_set ?_ GE106.out)|exact HB.out)⟩⟩
             ·rw [if_neg c22] at H;have c22b0:decide (0≤((rd_T47 x3_1 x7_3).f3))=false:=decide_eq_false c22;clear c22;have H':=am H;clear H;obtain ⟨Ao34,co34,eo34⟩:=Kd.R_slice HO_3.out;subst eo34;have p107:0≤(x7_3:Int):=of_decide_eq_true zq1;have q107:x7_3 < (x3_1.length:Int):=of_decide_eq_true zq1;obtain ⟨ad107,e107,hx107_0,hx107_1,hx107_2,hx107_3⟩:=at_T47 (Kd.R_reads' HO_3.out).2.2 x7_3 p107 q107;cases e107;replace p107:=eq_true p107;replace q107:=eq_true q107
              go_wp2
              go_roundg k3
              case measure=>have:=HK1.out;have:=HJ6.out;have:=HK3.out;omega
              case rel=>exact ⟨(wrap64 (x7_3 + 1)),(x107000_3),(x107001_3),zq3,H',⟨by have:=HK1.out;have:=HJ6.out;have:=HK3.out;omega⟩,⟨by (with_reducible repeat (first|apply Kd.R_alloc|apply Kd.R_drewN|apply Kd.R_drew));exact HO_3.out⟩,⟨by (with_reducible repeat (first|refine blk_drewN ?_ _|refine blk_drew ?_|refine blk_alloc ?_ _));exact BK105.out⟩,⟨by (with_reducible repeat (first|refine blk_drewN ?_ _|refine blk_drew ?_|refine blk_alloc ?_ _));exact BK106.out⟩,⟨by repeat (first|(with_reducible first|exact HB.out|apply below_alloc|apply pw_below_drewN|apply below_drew1|refine below_set ?_ GE105.out|refine below_set ?_ GE106.out)|exact HB.out)⟩⟩
            ·rw [if_neg c21] at H;exact absurd H (by simp)
           ·rw [if_neg c20] at H;exact absurd H (by simp)
          ·rw [if_neg c19] at H;have c19b0:decide (x7_3 < x12_1)=false:=decide_eq_false c19;clear c19
           by_cases c35:x107001_3≥0
           ·rw [if_pos c35] at H;have c35b0:decide (0≤x107001_3)=true:=decide_eq_true c35;clear c35
            by_cases c36:x12_1=0
            ·rw [if_pos c36] at H;have c36b0:(x12_1 == 0)=true:=beq_iff_eq.mpr c36;have c36b1:(x12_1 != 0)=false:=bne_eq_false_iff_eq.mpr c36;clear c36
             by_cases c37:x3_1.length < 4398046511104
             ·rw [if_pos c37] at H;have LMc37:=am c37;clear c37;obtain ⟨y108,hy108⟩:∃ y_:List (S47),y_=(x3_1 ++ [(⟨x107000_3,x107001_3,0,wrap64 ((wrap64 (((rd_T74 l0 x12_1).f2))))⟩:S47)]):=⟨_,rfl⟩
              replace H:(impl_times.l0 k3 y108 l0 (l0.length:Int) (wrap64 (x12_1 + 1)))=some r:=by first|(rw [hy108];with_reducible exact H)|(have H2_:=(Option.bind_some _ _).symm.trans H;rw [hy108];with_reducible exact H2_)|(have H2_:=(Option.bind_some _ _).symm.trans H;with_reducible exact H2_)|with_reducible exact H|(rw [hy108];exact H)|exact H
              have Ny108:=am hy108;clear hy108;have H':=am H;clear H;have hnb38:=NB106_105.out;have hnc38:=NB105_106.out;have hcz39_0:wr.cell? ⟨gb106,0,none⟩=some (.int .i8 x107000_3):=(blk_cell BK106.out 0).trans rfl;have hcz39_1:wr.cell? ⟨gb106,1,none⟩=some (.int .i64 x107001_3):=(blk_cell BK106.out 1).trans rfl;have hcz39_2:wr.cell? ⟨gb106,2,none⟩=some (.int .i64 (-1)):=(blk_cell BK106.out 2).trans rfl;have hcz39_3:wr.cell? ⟨gb106,3,none⟩=some (.int .i64 (-1)):=(blk_cell BK106.out 3).trans rfl;have hfz39_0:=blk_frozen BK106.out 0;have hfz39_1:=blk_frozen BK106.out 1;have hfz39_2:=blk_frozen BK106.out 2;have hfz39_3:=blk_frozen BK106.out 3;have hcz40_0:wr.cell? ⟨gb105,0,none⟩=some (.int .i8 ((rd_T74 l0 x12_1).f0)):=(blk_cell BK105.out 0).trans rfl;have hcz40_1:wr.cell? ⟨gb105,1,none⟩=some (.int .i8 ((rd_T74 l0 x12_1).f1)):=(blk_cell BK105.out 1).trans rfl;have hcz40_2:wr.cell? ⟨gb105,2,none⟩=some (.int .i8 ((rd_T74 l0 x12_1).f2)):=(blk_cell BK105.out 2).trans rfl;have hfz40_0:=blk_frozen BK105.out 0;have hfz40_1:=blk_frozen BK105.out 1;have hfz40_2:=blk_frozen BK105.out 2
              go_wp2_with (first|((with_reducible refine gate_builtin (b:=.append) (xs:=#[.tmp 75,.tmp 77]) rfl ?_);at_builtin;refine Kd.R_append k47 (w0:=w) w.heap.size rfl (.tmp 75) (.tmp 77) 37 47 (.agg #[(.int .i8 0),(.int .i64 0),(.int .i64 0),(.int .i64 0)]) 32 rfl Try.underlying37 info47 rfl (by decide) (by omega) u3 x3_1 (⟨x107000_3,x107001_3,0,wrap64 ((wrap64 (((rd_T74 l0 x12_1).f2))))⟩:S47) [.int .i8 x107000_3,.int .i64 x107001_3,.int .i64 0,.int .i64 (wrap64 ((wrap64 (((rd_T74 l0 x12_1).f2)))))] (fun k_=>k_≠gb106) (fun _=>False) rfl zq15 ?aP (fun _ hk=>hk.elim) ?aF ?aO ?aB ?aS ?aL ?_;(case aP=>exact k47_mkM _ _ _ (⟨x107000_3,x107001_3,0,wrap64 ((wrap64 (((rd_T74 l0 x12_1).f2))))⟩:S47));(case aB=>exact zq50);(case aF=>exact (fun k_ hk=>Kd.freshB (g:=gb106) (o:=.cells #[.int .i8 x107000_3,.int .i64 x107001_3,.int .i64 0,.int .i64 (wrap64 ((wrap64 (((rd_T74 l0 x12_1).f2)))))] 47 (0,0)) zq60 k_ hk));(case aO=>exact (by (with_reducible repeat (first|apply Kd.R_alloc|apply Kd.R_drewN|apply Kd.R_drew));exact Kd.R_mono (Kd.R_far (p:=⟨gb106,3,none⟩) (Kd.R_far (p:=⟨gb106,2,none⟩) (Kd.R_far (p:=⟨gb106,2,none⟩) (Kd.R_mono HO_3.out (fun k_ hk=>(⟨hk,hk⟩:_∧k_≠gb106))) (fun _ hk=>hk.2) (.int .i64 (wrap64 (x107001_3 + (wrap64 (((rd_T74 l0 x12_1).f1))))))) (fun _ hk=>hk.2) (.int .i64 0)) (fun _ hk=>hk.2) (.int .i64 (wrap64 ((wrap64 (((rd_T74 l0 x12_1).f2))))))) (fun _ hk=>hk.1)));(case aS=>exact (below_size zq50));(case aL=>have:=LMc37.out;omega);intro v109 w41 ho hb hg hat;rw [← Ny108.out] at ho;have n0_:=am (blk_grown (g:=gb105) (o:=.cells #[.int .i8 ((rd_T74 l0 x12_1).f0),.int .i8 ((rd_T74 l0 x12_1).f1),.int .i8 ((rd_T74 l0 x12_1).f2)] 74 (0,0)) (by (with_reducible repeat (first|refine blk_drewN ?_ _|refine blk_drew ?_|refine blk_alloc ?_ _));refine blk_far ?_ NB105_106.out _;(with_reducible repeat (first|refine blk_drewN ?_ _|refine blk_drew ?_|refine blk_alloc ?_ _));refine blk_far ?_ NB105_106.out _;(with_reducible repeat (first|refine blk_drewN ?_ _|refine blk_drew ?_|refine blk_alloc ?_ _));refine blk_far ?_ NB105_106.out _;(with_reducible repeat (first|refine blk_drewN ?_ _|refine blk_drew ?_|refine blk_alloc ?_ _));exact BK105.out) hg (Kd.R_ne HO_3.out BK105.out (by decide)));have n1_:=am (blk_grown (g:=gb106) (o:=.cells #[.int .i8 x107000_3,.int .i64 x107001_3,.int .i64 0,.int .i64 (wrap64 ((wrap64 (((rd_T74 l0 x12_1).f2)))))] 47 (0,0)) zq60 hg (Kd.R_away HO_3.out (fun _ hk=>hk)));have n2_:=am (hb);have n3_:=am (ho);clear BK105;clear BK106;clear HB;clear HO_3;have BK105:=n0_;have BK106:=n1_;have HB:=n2_;have HO110:=n3_;clear n0_ n1_ n2_ n3_;clear ho hb hg hat))
              go_roundg k3
              case measure=>have:=HK1.out;have:=HJ6.out;have:=HK3.out;omega
              case rel=>exact ⟨(y108),(wrap64 (x12_1 + 1)),zq3,H',⟨by have:=HK1.out;have:=HJ6.out;have:=HK3.out;omega⟩,⟨by (with_reducible repeat (first|apply Kd.R_alloc|apply Kd.R_drewN|apply Kd.R_drew));exact Kd.R_mono HO110.out (fun _ hk=>trivial)⟩,⟨by repeat (first|(with_reducible first|exact HB.out|apply below_alloc|apply pw_below_drewN|apply below_drew1|refine below_set ?_ GE105.out|refine below_set ?_ GE106.out)|exact HB.out)⟩⟩
             ·rw [if_neg c37] at H;exact absurd H (by simp)
            ·rw [if_neg c36] at H;have c36b0:(x12_1 == 0)=false:=beq_eq_false_iff_ne.mpr c36;have c36b1:(x12_1 != 0)=true:=bne_iff_ne.mpr c36
             by_cases c42:x3_1.length < 4398046511104
             ·rw [if_pos c42] at H;have LMc42:=am c42;clear c42;obtain ⟨y111,hy111⟩:∃ y_:List (S47),y_=(x3_1 ++ [(⟨x107000_3,x107001_3,wrap64 (x107001_3 + (wrap64 (((rd_T74 l0 x12_1).f1)))),wrap64 ((wrap64 (x107001_3 + (wrap64 (((rd_T74 l0 x12_1).f1))))) + (wrap64 (((rd_T74 l0 x12_1).f2))))⟩:S47)]):=⟨_,rfl⟩
              replace H:(impl_times.l0 k3 y111 l0 (l0.length:Int) (wrap64 (x12_1 + 1)))=some r:=by first|(rw [hy111];with_reducible exact H)|(have H2_:=(Option.bind_some _ _).symm.trans H;rw [hy111];with_reducible exact H2_)|(have H2_:=(Option.bind_some _ _).symm.trans H;with_reducible exact H2_)|with_reducible exact H|(rw [hy111];exact H)|exact H
              have Ny111:=am hy111;clear hy111;have H':=am H;clear H;have hnb43:=NB106_105.out;have hnc43:=NB105_106.out;have hcz44_0:wr.cell? ⟨gb106,0,none⟩=some (.int .i8 x107000_3):=(blk_cell BK106.out 0).trans rfl;have hcz44_1:wr.cell? ⟨gb106,1,none⟩=some (.int .i64 x107001_3):=(blk_cell BK106.out 1).trans rfl;have hcz44_2:wr.cell? ⟨gb106,2,none⟩=some (.int .i64 (-1)):=(blk_cell BK106.out 2).trans rfl;have hcz44_3:wr.cell? ⟨gb106,3,none⟩=some (.int .i64 (-1)):=(blk_cell BK106.out 3).trans rfl;have hfz44_0:=blk_frozen BK106.out 0;have hfz44_1:=blk_frozen BK106.out 1;have hfz44_2:=blk_frozen BK106.out 2;have hfz44_3:=blk_frozen BK106.out 3;have hcz45_0:wr.cell? ⟨gb105,0,none⟩=some (.int .i8 ((rd_T74 l0 x12_1).f0)):=(blk_cell BK105.out 0).trans rfl;have hcz45_1:wr.cell? ⟨gb105,1,none⟩=some (.int .i8 ((rd_T74 l0 x12_1).f1)):=(blk_cell BK105.out 1).trans rfl;have hcz45_2:wr.cell? ⟨gb105,2,none⟩=some (.int .i8 ((rd_T74 l0 x12_1).f2)):=(blk_cell BK105.out 2).trans rfl;have hfz45_0:=blk_frozen BK105.out 0;have hfz45_1:=blk_frozen BK105.out 1;have hfz45_2:=blk_frozen BK105.out 2
              go_wp2_with (first|((with_reducible refine gate_builtin (b:=.append) (xs:=#[.tmp 75,.tmp 77]) rfl ?_);at_builtin;refine Kd.R_append k47 (w0:=w) w.heap.size rfl (.tmp 75) (.tmp 77) 37 47 (.agg #[(.int .i8 0),(.int .i64 0),(.int .i64 0),(.int .i64 0)]) 32 rfl Try.underlying37 info47 rfl (by decide) (by omega) u3 x3_1 (⟨x107000_3,x107001_3,wrap64 (x107001_3 + (wrap64 (((rd_T74 l0 x12_1).f1)))),wrap64 ((wrap64 (x107001_3 + (wrap64 (((rd_T74 l0 x12_1).f1))))) + (wrap64 (((rd_T74 l0 x12_1).f2))))⟩:S47) [.int .i8 x107000_3,.int .i64 x107001_3,.int .i64 (wrap64 (x107001_3 + (wrap64 (((rd_T74 l0 x12_1).f1))))),.int .i64 (wrap64 ((wrap64 (x107001_3 + (wrap64 (((rd_T74 l0 x12_1).f1))))) + (wrap64 (((rd_T74 l0 x12_1).f2)))))] (fun k_=>k_≠gb106) (fun _=>False) rfl zq15 ?aP (fun _ hk=>hk.elim) ?aF ?aO ?aB ?aS ?aL ?_;(case aP=>exact k47_mkM _ _ _ (⟨x107000_3,x107001_3,wrap64 (x107001_3 + (wrap64 (((rd_T74 l0 x12_1).f1)))),wrap64 ((wrap64 (x107001_3 + (wrap64 (((rd_T74 l0 x12_1).f1))))) + (wrap64 (((rd_T74 l0 x12_1).f2))))⟩:S47));(case aB=>exact zq50);(case aF=>exact (fun k_ hk=>Kd.freshB (g:=gb106) (o:=.cells #[.int .i8 x107000_3,.int .i64 x107001_3,.int .i64 (wrap64 (x107001_3 + (wrap64 (((rd_T74 l0 x12_1).f1))))),.int .i64 (wrap64 ((wrap64 (x107001_3 + (wrap64 (((rd_T74 l0 x12_1).f1))))) + (wrap64 (((rd_T74 l0 x12_1).f2)))))] 47 (0,0)) zq76 k_ hk));(case aO=>exact (by (with_reducible repeat (first|apply Kd.R_alloc|apply Kd.R_drewN|apply Kd.R_drew));exact Kd.R_mono (Kd.R_far (p:=⟨gb106,3,none⟩) (Kd.R_far (p:=⟨gb106,2,none⟩) (Kd.R_mono HO_3.out (fun k_ hk=>(⟨hk,hk⟩:_∧k_≠gb106))) (fun _ hk=>hk.2) (.int .i64 (wrap64 (x107001_3 + (wrap64 (((rd_T74 l0 x12_1).f1))))))) (fun _ hk=>hk.2) (.int .i64 (wrap64 ((wrap64 (x107001_3 + (wrap64 (((rd_T74 l0 x12_1).f1))))) + (wrap64 (((rd_T74 l0 x12_1).f2))))))) (fun _ hk=>hk.1)));(case aS=>exact (below_size zq50));(case aL=>have:=LMc42.out;omega);intro v112 w46 ho hb hg hat;rw [← Ny111.out] at ho;have n0_:=am (blk_grown (g:=gb105) (o:=.cells #[.int .i8 ((rd_T74 l0 x12_1).f0),.int .i8 ((rd_T74 l0 x12_1).f1),.int .i8 ((rd_T74 l0 x12_1).f2)] 74 (0,0)) (by (with_reducible repeat (first|refine blk_drewN ?_ _|refine blk_drew ?_|refine blk_alloc ?_ _));refine blk_far ?_ NB105_106.out _;(with_reducible repeat (first|refine blk_drewN ?_ _|refine blk_drew ?_|refine blk_alloc ?_ _));refine blk_far ?_ NB105_106.out _;(with_reducible repeat (first|refine blk_drewN ?_ _|refine blk_drew ?_|refine blk_alloc ?_ _));exact BK105.out) hg (Kd.R_ne HO_3.out BK105.out (by decide)));have n1_:=am (blk_grown (g:=gb106) (o:=.cells #[.int .i8 x107000_3,.int .i64 x107001_3,.int .i64 (wrap64 (x107001_3 + (wrap64 (((rd_T74 l0 x12_1).f1))))),.int .i64 (wrap64 ((wrap64 (x107001_3 + (wrap64 (((rd_T74 l0 x12_1).f1))))) + (wrap64 (((rd_T74 l0 x12_1).f2)))))] 47 (0,0)) zq76 hg (Kd.R_away HO_3.out (fun _ hk=>hk)));have n2_:=am (hb);have n3_:=am (ho);clear BK105;clear BK106;clear HB;clear HO_3;have BK105:=n0_;have BK106:=n1_;have HB:=n2_;have HO113:=n3_;clear n0_ n1_ n2_ n3_;clear ho hb hg hat))
              go_roundg k3
              case measure=>have:=HK1.out;have:=HJ6.out;have:=HK3.out;omega
              case rel=>exact ⟨(y111),(wrap64 (x12_1 + 1)),zq3,H',⟨by have:=HK1.out;have:=HJ6.out;have:=HK3.out;omega⟩,⟨by (with_reducible repeat (first|apply Kd.R_alloc|apply Kd.R_drewN|apply Kd.R_drew));exact Kd.R_mono HO113.out (fun _ hk=>trivial)⟩,⟨by repeat (first|(with_reducible first|exact HB.out|apply below_alloc|apply pw_below_drewN|apply below_drew1|refine below_set ?_ GE105.out|refine below_set ?_ GE106.out)|exact HB.out)⟩⟩
             ·rw [if_neg c42] at H;exact absurd H (by simp)
           ·rw [if_neg c35] at H;have c35b0:decide (0≤x107001_3)=false:=decide_eq_false c35;clear c35
            by_cases c47:x3_1.length < 4398046511104
            ·rw [if_pos c47] at H;have LMc47:=am c47;clear c47;obtain ⟨y114,hy114⟩:∃ y_:List (S47),y_=(x3_1 ++ [(⟨x107000_3,x107001_3,(-1),(-1)⟩:S47)]):=⟨_,rfl⟩
             replace H:(impl_times.l0 k3 y114 l0 (l0.length:Int) (wrap64 (x12_1 + 1)))=some r:=by first|(rw [hy114];with_reducible exact H)|(have H2_:=(Option.bind_some _ _).symm.trans H;rw [hy114];with_reducible exact H2_)|(have H2_:=(Option.bind_some _ _).symm.trans H;with_reducible exact H2_)|with_reducible exact H|(rw [hy114];exact H)|exact H
             have Ny114:=am hy114;clear hy114;have H':=am H;clear H;have hnb48:=NB106_105.out;have hnc48:=NB105_106.out;have hcz49_0:wr.cell? ⟨gb106,0,none⟩=some (.int .i8 x107000_3):=(blk_cell BK106.out 0).trans rfl;have hcz49_1:wr.cell? ⟨gb106,1,none⟩=some (.int .i64 x107001_3):=(blk_cell BK106.out 1).trans rfl;have hcz49_2:wr.cell? ⟨gb106,2,none⟩=some (.int .i64 (-1)):=(blk_cell BK106.out 2).trans rfl;have hcz49_3:wr.cell? ⟨gb106,3,none⟩=some (.int .i64 (-1)):=(blk_cell BK106.out 3).trans rfl;have hfz49_0:=blk_frozen BK106.out 0;have hfz49_1:=blk_frozen BK106.out 1;have hfz49_2:=blk_frozen BK106.out 2;have hfz49_3:=blk_frozen BK106.out 3
             go_wp2_with (first|((with_reducible refine gate_builtin (b:=.append) (xs:=#[.tmp 75,.tmp 77]) rfl ?_);at_builtin;refine Kd.R_append k47 (w0:=w) w.heap.size rfl (.tmp 75) (.tmp 77) 37 47 (.agg #[(.int .i8 0),(.int .i64 0),(.int .i64 0),(.int .i64 0)]) 32 rfl Try.underlying37 info47 rfl (by decide) (by omega) u3 x3_1 (⟨x107000_3,x107001_3,(-1),(-1)⟩:S47) [.int .i8 x107000_3,.int .i64 x107001_3,.int .i64 (-1),.int .i64 (-1)] (fun k_=>k_≠gb106) (fun _=>False) rfl rfl ?aP (fun _ hk=>hk.elim) ?aF ?aO ?aB ?aS ?aL ?_;(case aP=>exact k47_mkM _ _ _ (⟨x107000_3,x107001_3,(-1),(-1)⟩:S47));(case aB=>exact zq50);(case aF=>exact (fun k_ hk=>Kd.freshB (g:=gb106) (o:=.cells #[.int .i8 x107000_3,.int .i64 x107001_3,.int .i64 (-1),.int .i64 (-1)] 47 (0,0)) zq155 k_ hk));(case aO=>exact zq19);(case aS=>exact (below_size zq50));(case aL=>have:=LMc47.out;omega);intro v115 w50 ho hb hg hat;rw [← Ny114.out] at ho;have n0_:=am (blk_grown (g:=gb105) (o:=.cells #[.int .i8 ((rd_T74 l0 x12_1).f0),.int .i8 ((rd_T74 l0 x12_1).f1),.int .i8 ((rd_T74 l0 x12_1).f2)] 74 (0,0)) (by (with_reducible repeat (first|refine blk_drewN ?_ _|refine blk_drew ?_|refine blk_alloc ?_ _));exact BK105.out) hg (Kd.R_ne HO_3.out BK105.out (by decide)));have n1_:=am (blk_grown (g:=gb106) (o:=.cells #[.int .i8 x107000_3,.int .i64 x107001_3,.int .i64 (-1),.int .i64 (-1)] 47 (0,0)) zq155 hg (Kd.R_away HO_3.out (fun _ hk=>hk)));have n2_:=am (hb);have n3_:=am (ho);clear BK105;clear BK106;clear HB;clear HO_3;have BK105:=n0_;have BK106:=n1_;have HB:=n2_;have HO116:=n3_;clear n0_ n1_ n2_ n3_;clear ho hb hg hat))
             go_roundg k3
             case measure=>have:=HK1.out;have:=HJ6.out;have:=HK3.out;omega
             case rel=>exact ⟨(y114),(wrap64 (x12_1 + 1)),zq3,H',⟨by have:=HK1.out;have:=HJ6.out;have:=HK3.out;omega⟩,⟨by (with_reducible repeat (first|apply Kd.R_alloc|apply Kd.R_drewN|apply Kd.R_drew));exact Kd.R_mono HO116.out (fun _ hk=>trivial)⟩,⟨by repeat (first|(with_reducible first|exact HB.out|apply below_alloc|apply pw_below_drewN|apply below_drew1|refine below_set ?_ GE105.out|refine below_set ?_ GE106.out)|exact HB.out)⟩⟩
            ·rw [if_neg c47] at H;exact absurd H (by simp)
     ·rw [if_neg c6] at H;exact absurd H (by simp)
    ·rw [if_neg c5] at H;exact absurd H (by simp)
   ·rw [if_neg c4] at H;have c4b0:decide (x12_1 < (l0.length:Int))=false:=decide_eq_false c4;clear c4;obtain rfl:=Option.some.inj H
    go_wp2
    go_ret
    exact ⟨_,by first|rfl|(simp [errW_none,errW_some,IntKind.wrap_i64,wrap64];done)|(simp [errW_none,errW_some] <;> rfl)|(simp [*,errW_none,errW_some] <;> rfl),by (with_reducible repeat (first|apply Kd.R_alloc|apply Kd.R_drewN|apply Kd.R_drew));exact HO_3.out,by repeat (first|(with_reducible first|exact HB.out|apply below_alloc|apply pw_below_drewN|apply below_drew1)|exact HB.out)⟩
end Go.Proofs.Ytcajnbkbdbkpgac.G
end

section
namespace Go.Proofs.Ytcajnbkbdbkpgac.G
open Go.RowKit Go.Proofs.YtcajnbkbdbkpgacW.PrintWords Go.Proofs.YtcajnbkbdbkpgacW.PrintLast Go.Proofs.YtcajnbkbdbkpgacW.PrintMore
attribute [local go_sem] max2_int min2_int max_two min_two max_three min_three max_four min_four
set_option linter.unusedVariables false
set_option linter.unusedSimpArgs false
def slices_Equal_Hoist_int8.l0:Nat→List Int→List Int→Int→Int→Option (Bool)
 | 0,_,_,_,_=>none
 | k + 1,x0,x1,x12,x13=>if x13 < x12 then (if 0≤x13 then (if x13 < (x0.length:Int) then (if x13 < (x1.length:Int) then (if (rd x0 x13)=(rd x1 x13) then (slices_Equal_Hoist_int8.l0 k x0 x1 x12 (wrap64 (x13 + 1))) else (some false)) else (none)) else (none)) else (none)) else (some true)
def slices_Equal_Hoist_int8.f (k:Nat) (l0:List Int) (l1:List Int):Option (Bool):=if (l0.length:Int)=(l1.length:Int) then (slices_Equal_Hoist_int8.l0 k l0 l1 (l0.length:Int) 0) else (some false)
set_option maxHeartbeats 8000000 in
set_option maxRecDepth 100000 in
theorem slices_Equal_Hoist_int8.calls (k:Nat) (A0:Option Addr) (c0:Nat) (l0:List Int) (A1:Option Addr) (c1:Nat) (l1:List Int) (r:Bool) (w:World) (hr0:Kd.C (Kd.int .i8) w A0 l0.length l0) (hc0:l0.length≤c0) (hr1:Kd.C (Kd.int .i8) w A1 l1.length l1) (hc1:l1.length≤c1) (h:slices_Equal_Hoist_int8.f k l0 l1=some r) :
  Calls Try.prog 39 #[.slice A0 l0.length c0,.slice A1 l1.length c1] w fun e w'=>e=.returned (.bool r)∧Drawn0 w w':=by
 have HR0:=am hr0;have HC0:=am hc0;clear hr0 hc0;have HR1:=am hr1;have HC1:=am hc1;clear hr1 hc1;have H:(if (l0.length:Int)=(l1.length:Int) then (slices_Equal_Hoist_int8.l0 k l0 l1 (l0.length:Int) 0) else (some false))=some r:=h;clear h
 by_cases c3:(l0.length:Int)=(l1.length:Int)
 ·rw [if_pos c3] at H;have c3b0:((l0.length:Int) == (l1.length:Int))=true:=beq_iff_eq.mpr c3;have c3b1:((l0.length:Int) != (l1.length:Int))=false:=bne_eq_false_iff_eq.mpr c3
  have c3b2:(l0.length == l1.length)=true:=by first|simpa using c3|(simp at c3 ⊢;omega)
  clear c3;have H':=am H;clear H
  go_enter Try.func39,Try.ntmps39
  go_wp2
  repeat (go_quiet (fail);try go_wp2)
  go_loopg [13] k (fun kq v13 w'=>∃ (x13_1:Int),v13=.int .i64 x13_1∧Aside0 (slices_Equal_Hoist_int8.l0 kq l0 l1 (l0.length:Int) x13_1=some r)∧Aside0 (kq≤k)∧Drawn0 w w')
  case atStart=>exact ⟨(0),zq3,H',⟨Nat.le_refl _⟩,by repeat (first|exact Drawn0.refl _|apply Drawn0.step)⟩
  case round =>
   clear H';(try clear c1);(try clear p2);(try clear c3);(try clear c3b0);(try clear c3b1);(try clear c3b2);obtain ⟨x13_1,rfl,HA,HK1,⟨m1,rfl⟩⟩:=hrel
   cases gk with
   | zero=>exact absurd HA.out (by simp [slices_Equal_Hoist_int8.l0])
   | succ k1 =>
    have H:=HA.out;clear HA;simp only [slices_Equal_Hoist_int8.l0] at H
    by_cases c4:x13_1 < (l0.length:Int)
    ·rw [if_pos c4] at H;have c4b0:decide (x13_1 < (l0.length:Int))=true:=decide_eq_true c4;clear c4
     by_cases c5:0≤x13_1
     ·rw [if_pos c5] at H;have c5b0:decide (0≤x13_1)=true:=decide_eq_true c5;clear c5
      by_cases c6:x13_1 < (l0.length:Int)
      ·rw [if_pos c6] at H;have c6b0:decide (x13_1 < (l0.length:Int))=true:=decide_eq_true c6;clear c6
       by_cases c7:x13_1 < (l1.length:Int)
       ·rw [if_pos c7] at H;have c7b0:decide (x13_1 < (l1.length:Int))=true:=decide_eq_true c7;clear c7
        by_cases c8:(rd l0 x13_1)=(rd l1 x13_1)
        ·rw [if_pos c8] at H;have c8b0:((rd l0 x13_1) == (rd l1 x13_1))=true:=beq_iff_eq.mpr c8;have c8b1:((rd l0 x13_1) != (rd l1 x13_1))=false:=bne_eq_false_iff_eq.mpr c8;clear c8;have H':=am H;clear H;have p101:0≤(x13_1:Int):=of_decide_eq_true zq1;have q101:x13_1 < (l0.length:Int):=of_decide_eq_true zq1;obtain ⟨ad101,e101,hx101_0⟩:=Kd.at_int HR0.out x13_1 p101 q101;cases e101;replace p101:=eq_true p101;replace q101:=eq_true q101;have p102:0≤(x13_1:Int):=of_decide_eq_true zq1;have q102:x13_1 < (l1.length:Int):=of_decide_eq_true zq1;obtain ⟨ad102,e102,hx102_0⟩:=Kd.at_int HR1.out x13_1 p102 q102;cases e102;replace p102:=eq_true p102;replace q102:=eq_true q102
         go_wp2
         repeat (go_quiet (fail);try go_wp2)
         go_roundg k1
         case measure=>have:=HK1.out;omega
         case rel=>exact ⟨(wrap64 (x13_1 + 1)),zq3,H',⟨by have:=HK1.out;omega⟩,by repeat (first|exact Drawn0.refl _|apply Drawn0.step)⟩
        ·rw [if_neg c8] at H;have c8b0:((rd l0 x13_1) == (rd l1 x13_1))=false:=beq_eq_false_iff_ne.mpr c8;have c8b1:((rd l0 x13_1) != (rd l1 x13_1))=true:=bne_iff_ne.mpr c8;obtain rfl:=Option.some.inj H;have p101:0≤(x13_1:Int):=of_decide_eq_true zq1;have q101:x13_1 < (l0.length:Int):=of_decide_eq_true zq1;obtain ⟨ad101,e101,hx101_0⟩:=Kd.at_int HR0.out x13_1 p101 q101;cases e101;replace p101:=eq_true p101;replace q101:=eq_true q101;have p102:0≤(x13_1:Int):=of_decide_eq_true zq1;have q102:x13_1 < (l1.length:Int):=of_decide_eq_true zq1;obtain ⟨ad102,e102,hx102_0⟩:=Kd.at_int HR1.out x13_1 p102 q102;cases e102;replace p102:=eq_true p102;replace q102:=eq_true q102
         go_wp2
         repeat (go_quiet (fail);try go_wp2)
         go_ret
         exact ⟨by first|rfl|(simp only [IntKind.wrap_i64,wrap64];done)|(simp;done)|(simp [*];done),by repeat (first|exact Drawn0.refl _|apply Drawn0.step)⟩
       ·rw [if_neg c7] at H;exact absurd H (by simp)
      ·rw [if_neg c6] at H;exact absurd H (by simp)
     ·rw [if_neg c5] at H;exact absurd H (by simp)
    ·rw [if_neg c4] at H;have c4b0:decide (x13_1 < (l0.length:Int))=false:=decide_eq_false c4;clear c4;obtain rfl:=Option.some.inj H
     go_wp2
     repeat (go_quiet (fail);try go_wp2)
     go_ret
     exact ⟨by first|rfl|(simp only [IntKind.wrap_i64,wrap64];done)|(simp;done)|(simp [*];done),by repeat (first|exact Drawn0.refl _|apply Drawn0.step)⟩
 ·rw [if_neg c3] at H;have c3b0:((l0.length:Int) == (l1.length:Int))=false:=beq_eq_false_iff_ne.mpr c3;have c3b1:((l0.length:Int) != (l1.length:Int))=true:=bne_iff_ne.mpr c3
  have c3b2:(l0.length == l1.length)=false:=by first|simpa using c3|(simp at c3 ⊢;omega)
  obtain rfl:=Option.some.inj H
  go_enter Try.func39,Try.ntmps39
  go_wp2
  repeat (go_quiet (fail);try go_wp2)
  go_ret
  exact ⟨by first|rfl|(simp only [IntKind.wrap_i64,wrap64];done)|(simp;done)|(simp [*];done),by repeat (first|exact Drawn0.refl _|apply Drawn0.step)⟩
end Go.Proofs.Ytcajnbkbdbkpgac.G
end

section
namespace Go.Proofs.Ytcajnbkbdbkpgac.G
open Go.RowKit Go.Proofs.YtcajnbkbdbkpgacW.PrintWords Go.Proofs.YtcajnbkbdbkpgacW.PrintLast Go.Proofs.YtcajnbkbdbkpgacW.PrintMore
attribute [local go_sem] max2_int min2_int max_two min_two max_three min_three max_four min_four
set_option linter.unusedVariables false
set_option linter.unusedSimpArgs false
def impl_FirstBlamed.l0:Nat→List Int→List (List Int)→List (S47)→Int→Int→Option (Int × Int)
 | 0,_,_,_,_,_=>none
 | k + 1,x1,x2,x27,x28,x29=>if x29 < x28 then (if 0≤x29 then (if x29 < (x27.length:Int) then (if ((rd_T47 x27 x29).f0)≥0 then (if 0≤((rd_T47 x27 x29).f0) then (if ((rd_T47 x27 x29).f0) < (x2.length:Int) then (if ((rd_T47 x27 x29).f2)≥0 then (if x29 < (x2.length:Int) then ((slices_Equal_Hoist_int8.f k (rd_L9 x2 x29) (rd_L9 x2 ((rd_T47 x27 x29).f0))).bind fun t114=>(if t114=true then (impl_FirstBlamed.l0 k x1 x2 x27 x28 (wrap64 (x29 + 1))) else (some (x29,0)))) else (none)) else (impl_FirstBlamed.l0 k x1 x2 x27 x28 (wrap64 (x29 + 1)))) else (none)) else (none)) else (if ((rd_T47 x27 x29).f2)≥0 then (if x29 < (x2.length:Int) then ((slices_Equal_Hoist_int8.f k (rd_L9 x2 x29) x1).bind fun t116=>(if t116=true then (impl_FirstBlamed.l0 k x1 x2 x27 x28 (wrap64 (x29 + 1))) else (some (x29,0)))) else (none)) else (impl_FirstBlamed.l0 k x1 x2 x27 x28 (wrap64 (x29 + 1))))) else (none)) else (none)) else (some (0,6))
def impl_FirstBlamed.f (k:Nat) (l0:List (S74)) (l1:List Int) (l2:List (List Int)):Option (Int × Int):=(impl_lineCode.f k l0 l1 ([]:List (S51))).bind fun t101=>((impl_unless.f ((l2.length:Int) == (l0.length:Int)) 2).bind fun t102=>((impl_firstOf.f k (([t101,t102]:List Int))).bind fun t106=>(if t106=0 then ((impl_times.f k l0).bind fun t107=>(impl_FirstBlamed.l0 k l1 l2 t107 (t107.length:Int) 0)) else (some (0,t106)))))
set_option maxHeartbeats 8000000 in
set_option maxRecDepth 100000 in
theorem impl_FirstBlamed.calls (k:Nat) (A0:Option Addr) (c0:Nat) (l0:List (S74)) (A1:Option Addr) (c1:Nat) (l1:List Int) (A2:Option Addr) (c2:Nat) (l2:List (List Int)) (r1:Int) (r2:Int) (w:World) (hr0:Kd.C k74 w A0 l0.length l0) (hc0:l0.length≤c0) (hr1:Kd.C (Kd.int .i8) w A1 l1.length l1) (hc1:l1.length≤c1) (hr2:Kd.C (Kd.slice 45 (Kd.int .i8)) w A2 l2.length l2) (hc2:l2.length≤c2) (h:impl_FirstBlamed.f k l0 l1 l2=some (r1,r2)) :
  Calls Try.prog 18 #[.slice A0 l0.length c0,.slice A1 l1.length c1,.slice A2 l2.length c2] w fun e w'=>e=.returned (.tuple #[.int .i64 r1,.int .i64 r2])∧Below w.heap.size w w':=by
 have hu47:=Try.underlying47;have HR0:=am hr0;have HC0:=am hc0;clear hr0 hc0;have HR1:=am hr1;have HC1:=am hc1;clear hr1 hc1;have HR2:=am hr2;have HC2:=am hc2;clear hr2 hc2;have HB:=am (Below.refl w.heap.size w);have H:((impl_lineCode.f k l0 l1 ([]:List (S51))).bind fun t101=>((impl_unless.f ((l2.length:Int) == (l0.length:Int)) 2).bind fun t102=>((impl_firstOf.f k (([t101,t102]:List Int))).bind fun t106=>(if t106=0 then ((impl_times.f k l0).bind fun t107=>(impl_FirstBlamed.l0 k l1 l2 t107 (t107.length:Int) 0)) else (some (0,t106))))))=some (r1,r2):=h;clear h;replace H:=Option.bind_eq_some_iff.mp H;obtain ⟨t101,A40,H⟩:=H;replace H:((impl_unless.f ((l2.length:Int) == (l0.length:Int)) 2).bind fun t102=>((impl_firstOf.f k (([t101,t102]:List Int))).bind fun t106=>(if t106=0 then ((impl_times.f k l0).bind fun t107=>(impl_FirstBlamed.l0 k l1 l2 t107 (t107.length:Int) 0)) else (some (0,t106)))))=some (r1,r2):=H;have A4:=am A40;clear A40;replace H:=Option.bind_eq_some_iff.mp H;obtain ⟨t102,A50,H⟩:=H;replace H:((impl_firstOf.f k (([t101,t102]:List Int))).bind fun t106=>(if t106=0 then ((impl_times.f k l0).bind fun t107=>(impl_FirstBlamed.l0 k l1 l2 t107 (t107.length:Int) 0)) else (some (0,t106))))=some (r1,r2):=H;have A5:=am A50;clear A50;obtain ⟨y103,hy103⟩:∃ y_:List Int,y_=(([t101,t102]:List Int)):=⟨_,rfl⟩
 replace H:((impl_firstOf.f k y103).bind fun t106=>(if t106=0 then ((impl_times.f k l0).bind fun t107=>(impl_FirstBlamed.l0 k l1 l2 t107 (t107.length:Int) 0)) else (some (0,t106))))=some (r1,r2):=by first|(rw [hy103];with_reducible exact H)|(have H2_:=(Option.bind_some _ _).symm.trans H;rw [hy103];with_reducible exact H2_)|(have H2_:=(Option.bind_some _ _).symm.trans H;with_reducible exact H2_)|with_reducible exact H|(rw [hy103];exact H)|exact H
 have Ny103:=am hy103;clear hy103;replace H:=Option.bind_eq_some_iff.mp H;obtain ⟨t106,A60,H⟩:=H;replace H:(if t106=0 then ((impl_times.f k l0).bind fun t107=>(impl_FirstBlamed.l0 k l1 l2 t107 (t107.length:Int) 0)) else (some (0,t106)))=some (r1,r2):=H;have A6:=am A60;clear A60
 by_cases c7:t106=0
 ·rw [if_pos c7] at H;have c7b0:(t106 == 0)=true:=beq_iff_eq.mpr c7;have c7b1:(t106 != 0)=false:=bne_eq_false_iff_eq.mpr c7;clear c7;replace H:=Option.bind_eq_some_iff.mp H;obtain ⟨t107,A80,H⟩:=H;replace H:(impl_FirstBlamed.l0 k l1 l2 t107 (t107.length:Int) 0)=some (r1,r2):=H;have A8:=am A80;clear A80;have H':=am H;clear H
  go_enter Try.func18,Try.ntmps18
  go_wp2_with (first|((with_reducible refine gate_callee (f:=25) rfl ?_);refine goesL_ (some 14) rfl rfl Try.func25 zq21 rfl #[.slice A0 l0.length c0,.slice A1 l1.length c1,.slice none 0 0] rfl zq2 ?_;(refine (impl_lineCode.calls k _ _ l0 _ _ l1 _ _ ([]:List (S51)) t101 _ ?side1 ?side2 ?side3 ?side4 ?side5 ?side6 A4.out).mono ?_);(case side1=>exact zq10);(case side2=>exact HC0.out);(case side3=>exact zq24);(case side4=>exact HC1.out);(case side5=>exact Kd.C_nil _ _);(case side6=>exact Nat.le_refl _);rintro e w9 ⟨rfl,hb⟩;refine ⟨_,rfl,?_⟩;have n0_:=am (below_step zq0 hb);clear HB;have HB:=n0_;clear n0_;(try clear hb);(try clear hb2);(try clear hk);(try clear hi))|((with_reducible refine gate_callee (f:=37) rfl ?_);refine goesL_ (some 20) rfl rfl Try.func37 zq21 rfl #[.bool ((l2.length:Int) == (l0.length:Int)),.int .i64 2] rfl zq2 ?_;(with_reducible refine (impl_unless.calls ((l2.length:Int) == (l0.length:Int)) 2 t102 _ A5.out).mono ?_);rintro e w' ⟨rfl,⟨nd,rfl⟩⟩;refine ⟨_,rfl,?_⟩)|((with_reducible refine gate_dst (N:=21) rfl ?_);refine Kd.R_lit (Kd.int .i64) _ 2 ?hg (N:=21) ?hd (xs:=([t101,t102]:List Int)) (inner:=[.int .i64 t101,.int .i64 t102]) (ok:=fun _=>True) (okp:=fun _=>True) ?hr ?hp (fun _ hk=>hk) trivial (Below.refl _ _) (Nat.le_refl _) (by simp) ?_;(case hd=>rfl);(case hg=>rfl);(case hr=>exact zq15);(case hp=>exact (Reps.one (show Kd.M (Kd.int .i64) _ _ _ t101 [.int .i64 t101] from rfl) (Reps.one (show Kd.M (Kd.int .i64) _ _ _ t102 [.int .i64 t102] from rfl) (Reps.none _ _))));intro v104 w10 ho11 hb hg_ hnew_;clear hg_ hnew_;(first|rw [← Ny103.out] at ho11|(simp only [Int.reduceToNat] at ho11;rw [← Ny103.out] at ho11));have n0_:=am (Kd.R_lower ho11 (below_size zq0));have n1_:=am (below_step zq0 hb);clear HB;have HO105:=n0_;have HB:=n1_;clear n0_ n1_;clear hb ho11;obtain ⟨Ao12,co12,eo12⟩:=Kd.R_slice HO105.out;subst eo12)|((with_reducible refine gate_callee (f:=36) rfl ?_);refine goesL_ (some 22) rfl rfl Try.func36 zq21 rfl #[.slice Ao12 y103.length co12] rfl zq2 ?_;(with_reducible refine (impl_firstOf.calls k _ _ y103 t106 _ ?side1 ?side2 A6.out).mono ?_);(case side1=>exact zq130);(case side2=>exact (Kd.R_reads' HO105.out).2.1);rintro e w' ⟨rfl,⟨nd,rfl⟩⟩;refine ⟨_,rfl,?_⟩)|((with_reducible refine gate_callee (f:=38) rfl ?_);refine goesL_ (some 27) rfl rfl Try.func38 zq21 rfl #[.slice A0 l0.length c0] rfl zq2 ?_;(with_reducible refine (impl_times.calls k _ _ l0 t107 _ ?side1 ?side2 A8.out).mono ?_);(case side1=>repeat (first|exact (Kd.C_below HR0.out zq0)|(with_reducible refine Kd.C_alloc ?_ _)|(with_reducible refine Kd.C_drewN ?_ _)|(with_reducible refine Kd.C_drew ?_)));(case side2=>exact HC0.out);rintro e w13 ⟨v108,rfl,ho0,hb⟩;refine ⟨_,rfl,?_⟩;have n0_:=am (Kd.R_below zq107 hb);have n1_:=am (Kd.R_lower ho0 (below_size zq0));have n2_:=am (below_step zq0 hb);clear HO105;clear HB;have HO105:=n0_;have HO109:=n1_;have HB:=n2_;clear n0_ n1_ n2_;(try clear hb);(try clear hb2);(try clear hk);(try clear hi);(try clear ho0);obtain ⟨Ao14,co14,eo14⟩:=Kd.R_slice HO109.out;subst eo14))
  go_loopg [29] k (fun kq v29 w'=>∃ (x29_1:Int),v29=.int .i64 x29_1∧Aside0 (impl_FirstBlamed.l0 kq l1 l2 t107 (t107.length:Int) x29_1=some (r1,r2))∧Aside0 (kq≤k)∧Aside0 (Kd.R k47 47 w' w.heap.size (fun _=>True) (.slice Ao14 t107.length co14) t107)∧Aside0 (Below w.heap.size w w'))
  case atStart=>exact ⟨(0),zq3,H',⟨Nat.le_refl _⟩,⟨by (with_reducible repeat (first|apply Kd.R_alloc|apply Kd.R_drewN|apply Kd.R_drew));exact HO109.out⟩,⟨by repeat (first|(with_reducible first|exact HB.out|apply below_alloc|apply pw_below_drewN|apply below_drew1)|exact HB.out)⟩⟩
  case round =>
   clear H';(try clear c1);(try clear c2);(try clear p2);(try clear c3);(try clear c7);(try clear c7b0);(try clear c7b1);obtain ⟨x29_1,rfl,HA,HK1,HO_27,HB⟩:=hrel
   cases gk with
   | zero=>exact absurd HA.out (by simp [impl_FirstBlamed.l0])
   | succ k1 =>
    have H:=HA.out;clear HA;simp only [impl_FirstBlamed.l0] at H
    by_cases c15:x29_1 < (t107.length:Int)
    ·rw [if_pos c15] at H;have c15b0:decide (x29_1 < (t107.length:Int))=true:=decide_eq_true c15;clear c15
     by_cases c16:0≤x29_1
     ·rw [if_pos c16] at H;have c16b0:decide (0≤x29_1)=true:=decide_eq_true c16;clear c16
      by_cases c17:x29_1 < (t107.length:Int)
      ·rw [if_pos c17] at H;have c17b0:decide (x29_1 < (t107.length:Int))=true:=decide_eq_true c17;clear c17
       by_cases c18:((rd_T47 t107 x29_1).f0)≥0
       ·rw [if_pos c18] at H;have c18b0:decide (0≤((rd_T47 t107 x29_1).f0))=true:=decide_eq_true c18;clear c18
        by_cases c19:0≤((rd_T47 t107 x29_1).f0)
        ·rw [if_pos c19] at H;have c19b0:decide (0≤((rd_T47 t107 x29_1).f0))=true:=decide_eq_true c19;clear c19
         by_cases c20:((rd_T47 t107 x29_1).f0) < (l2.length:Int)
         ·rw [if_pos c20] at H;have c20b0:decide (((rd_T47 t107 x29_1).f0) < (l2.length:Int))=true:=decide_eq_true c20;clear c20
          by_cases c21:((rd_T47 t107 x29_1).f2)≥0
          ·rw [if_pos c21] at H;have c21b0:decide (0≤((rd_T47 t107 x29_1).f2))=true:=decide_eq_true c21;clear c21
           by_cases c22:x29_1 < (l2.length:Int)
           ·rw [if_pos c22] at H;have c22b0:decide (x29_1 < (l2.length:Int))=true:=decide_eq_true c22;clear c22;replace H:=Option.bind_eq_some_iff.mp H;obtain ⟨t114,A230,H⟩:=H;replace H:(if t114=true then (impl_FirstBlamed.l0 k1 l1 l2 t107 (t107.length:Int) (wrap64 (x29_1 + 1))) else (some (x29_1,0)))=some (r1,r2):=H;have A23:=am A230;clear A230
            by_cases c24:t114=true
            ·subst c24
             have H1:(impl_FirstBlamed.l0 k1 l1 l2 t107 (t107.length:Int) (wrap64 (x29_1 + 1)))=some (r1,r2):=by rw [if_pos rfl] at H;exact H
             clear H;have H:=H1;clear H1;have H':=am H;clear H;have p110:0≤(x29_1:Int):=of_decide_eq_true zq1;have q110:x29_1 < (t107.length:Int):=of_decide_eq_true zq1;obtain ⟨ad110,e110,hx110_0,hx110_1,hx110_2,hx110_3⟩:=at_T47 (Kd.R_reads' HO_27.out).2.2 x29_1 p110 q110;cases e110;replace p110:=eq_true p110;replace q110:=eq_true q110
             go_wp2_with (first|((with_reducible refine gate_dst (N:=10) rfl ?_);refine box_event ?hg (N:=10) ?hd (cs:=#[.int .i8 0,.int .i64 0,.int .i64 0,.int .i64 0]) (t:=47) ?hr ?_;(case hd=>rfl);(case hg=>rfl);(case hr=>exact zq15);intro gb111 hg w25 hbox hb;have n0_:=am (Kd.R_below (Kd.R_elderB zq79 gb111 (Nat.le_of_eq hg.symm)) hb);have n1_:=am (below_step zq0 hb);have n2_:=am (hbox);have n3_:=am ((by rw [hg];exact (below_size zq0):w.heap.size≤gb111));have n4_:=am ((by rw [hg];exact (below_size zq0):w.heap.size≤gb111));clear HO_27;clear HB;have HO_27:=n0_;have HB:=n1_;have BK111:=n2_;have GW111:=n3_;have GE111:=n4_;clear n0_ n1_ n2_ n3_ n4_;clear hb hbox hg;have hcz26_0:w25.cell? ⟨gb111,0,none⟩=some (.int .i8 0):=(blk_cell BK111.out 0).trans rfl;have hcz26_1:w25.cell? ⟨gb111,1,none⟩=some (.int .i64 0):=(blk_cell BK111.out 1).trans rfl;have hcz26_2:w25.cell? ⟨gb111,2,none⟩=some (.int .i64 0):=(blk_cell BK111.out 2).trans rfl;have hcz26_3:w25.cell? ⟨gb111,3,none⟩=some (.int .i64 0):=(blk_cell BK111.out 3).trans rfl;have hfz26_0:=blk_frozen BK111.out 0;have hfz26_1:=blk_frozen BK111.out 1;have hfz26_2:=blk_frozen BK111.out 2;have hfz26_3:=blk_frozen BK111.out 3;have p112:0≤(((rd_T47 t107 x29_1).f0):Int):=of_decide_eq_true zq1;have q112:((rd_T47 t107 x29_1).f0) < (l2.length:Int):=of_decide_eq_true zq1;obtain ⟨ad112,A112_0,c112_0,e112,hx112_0,hl112_0,hi112_0⟩:=at_L9 HR2.out ((rd_T47 t107 x29_1).f0) p112 q112;cases e112;have hn112_0:ad112.block≠gb111:=Nat.ne_of_lt (Nat.lt_of_lt_of_le zq53 GW111.out);have hn112_1:ad112.block≠gb111:=Nat.ne_of_lt (Nat.lt_of_lt_of_le zq53 GW111.out);have hn112_2:ad112.block≠gb111:=Nat.ne_of_lt (Nat.lt_of_lt_of_le zq53 GW111.out);have hn112_3:ad112.block≠gb111:=Nat.ne_of_lt (Nat.lt_of_lt_of_le zq53 GW111.out);replace hx112_0:=(HB.out.cell (World.block_lt_of_cell? w _ hx112_0)).trans hx112_0;have HR112_0:=am hi112_0;have HC112_0:=am hl112_0;clear hi112_0 hl112_0;replace hx112_0:=(cell_far (p:=⟨gb111,0,none⟩) zq113 (.int .i8 ((rd_T47 t107 x29_1).f0))).trans hx112_0;replace hx112_0:=(cell_far (p:=⟨gb111,1,none⟩) zq112 (.int .i64 ((rd_T47 t107 x29_1).f1))).trans hx112_0;replace hx112_0:=(cell_far (p:=⟨gb111,2,none⟩) zq111 (.int .i64 ((rd_T47 t107 x29_1).f2))).trans hx112_0;replace hx112_0:=(cell_far (p:=⟨gb111,3,none⟩) zq110 (.int .i64 ((rd_T47 t107 x29_1).f3))).trans hx112_0;clear hn112_0;clear hn112_1;clear hn112_2;clear hn112_3;replace p112:=eq_true p112;replace q112:=eq_true q112;have p113:0≤(x29_1:Int):=of_decide_eq_true zq1;have q113:x29_1 < (l2.length:Int):=of_decide_eq_true zq1;obtain ⟨ad113,A113_0,c113_0,e113,hx113_0,hl113_0,hi113_0⟩:=at_L9 HR2.out x29_1 p113 q113;obtain rfl:ad112=ad113:=(by injection e113);have hn113_0:ad112.block≠gb111:=Nat.ne_of_lt (Nat.lt_of_lt_of_le zq73 GW111.out);have hn113_1:ad112.block≠gb111:=Nat.ne_of_lt (Nat.lt_of_lt_of_le zq73 GW111.out);have hn113_2:ad112.block≠gb111:=Nat.ne_of_lt (Nat.lt_of_lt_of_le zq73 GW111.out);have hn113_3:ad112.block≠gb111:=Nat.ne_of_lt (Nat.lt_of_lt_of_le zq73 GW111.out);replace hx113_0:=(HB.out.cell (World.block_lt_of_cell? w _ hx113_0)).trans hx113_0;have HR113_0:=am hi113_0;have HC113_0:=am hl113_0;clear hi113_0 hl113_0;replace hx113_0:=(cell_far (p:=⟨gb111,0,none⟩) zq141 (.int .i8 ((rd_T47 t107 x29_1).f0))).trans hx113_0;replace hx113_0:=(cell_far (p:=⟨gb111,1,none⟩) zq140 (.int .i64 ((rd_T47 t107 x29_1).f1))).trans hx113_0;replace hx113_0:=(cell_far (p:=⟨gb111,2,none⟩) zq139 (.int .i64 ((rd_T47 t107 x29_1).f2))).trans hx113_0;replace hx113_0:=(cell_far (p:=⟨gb111,3,none⟩) zq138 (.int .i64 ((rd_T47 t107 x29_1).f3))).trans hx113_0;clear hn113_0;clear hn113_1;clear hn113_2;clear hn113_3;replace p113:=eq_true p113;replace q113:=eq_true q113)|(go_at_call 39;(with_reducible refine (slices_Equal_Hoist_int8.calls k1 _ _ (rd_L9 l2 x29_1) _ _ (rd_L9 l2 ((rd_T47 t107 x29_1).f0)) true _ ?side1 ?side2 ?side3 ?side4 A23.out).mono ?_);(case side1=>exact Kd.C_below HR113_0.out zq41);(case side2=>exact HC113_0.out);(case side3=>exact Kd.C_below HR112_0.out zq41);(case side4=>exact HC112_0.out);rintro e w' ⟨rfl,⟨nd,rfl⟩⟩))
             go_roundg k1
             case measure=>have:=HK1.out;omega
             case rel=>exact ⟨(wrap64 (x29_1 + 1)),zq3,H',⟨by have:=HK1.out;omega⟩,⟨by (with_reducible repeat (first|apply Kd.R_alloc|apply Kd.R_drewN|apply Kd.R_drew));exact Kd.R_mono (Kd.R_far (p:=⟨gb111,3,none⟩) (Kd.R_far (p:=⟨gb111,2,none⟩) (Kd.R_far (p:=⟨gb111,1,none⟩) (Kd.R_far (p:=⟨gb111,0,none⟩) (Kd.R_mono HO_27.out (fun k_ hk=>(⟨hk,hk.2⟩:_∧k_≠gb111))) (fun _ hk=>hk.2) (.int .i8 ((rd_T47 t107 x29_1).f0))) (fun _ hk=>hk.2) (.int .i64 ((rd_T47 t107 x29_1).f1))) (fun _ hk=>hk.2) (.int .i64 ((rd_T47 t107 x29_1).f2))) (fun _ hk=>hk.2) (.int .i64 ((rd_T47 t107 x29_1).f3))) (fun _ hk=>trivial)⟩,⟨by repeat (first|(with_reducible first|exact HB.out|apply below_alloc|apply pw_below_drewN|apply below_drew1|refine below_set ?_ GE111.out)|exact HB.out)⟩⟩
            ·replace c24:=Bool.eq_false_iff.mpr c24;subst c24
             have H1:(some (x29_1,0))=some (r1,r2):=by rw [if_neg (show ¬ (false=true) by decide)] at H;exact H
             clear H;have H:=H1;clear H1;simp only [Option.some.injEq,Prod.mk.injEq] at H;obtain ⟨rfl,rfl⟩:=H;have p110:0≤(x29_1:Int):=of_decide_eq_true zq1;have q110:x29_1 < (t107.length:Int):=of_decide_eq_true zq1;obtain ⟨ad110,e110,hx110_0,hx110_1,hx110_2,hx110_3⟩:=at_T47 (Kd.R_reads' HO_27.out).2.2 x29_1 p110 q110;cases e110;replace p110:=eq_true p110;replace q110:=eq_true q110
             go_wp2_with (first|((with_reducible refine gate_dst (N:=10) rfl ?_);refine box_event ?hg (N:=10) ?hd (cs:=#[.int .i8 0,.int .i64 0,.int .i64 0,.int .i64 0]) (t:=47) ?hr ?_;(case hd=>rfl);(case hg=>rfl);(case hr=>exact zq15);intro gb111 hg w27 hbox hb;have n0_:=am (Kd.R_below (Kd.R_elderB zq79 gb111 (Nat.le_of_eq hg.symm)) hb);have n1_:=am (below_step zq0 hb);have n2_:=am (hbox);have n3_:=am ((by rw [hg];exact (below_size zq0):w.heap.size≤gb111));have n4_:=am ((by rw [hg];exact (below_size zq0):w.heap.size≤gb111));clear HO_27;clear HB;have HO_27:=n0_;have HB:=n1_;have BK111:=n2_;have GW111:=n3_;have GE111:=n4_;clear n0_ n1_ n2_ n3_ n4_;clear hb hbox hg;have hcz28_0:w27.cell? ⟨gb111,0,none⟩=some (.int .i8 0):=(blk_cell BK111.out 0).trans rfl;have hcz28_1:w27.cell? ⟨gb111,1,none⟩=some (.int .i64 0):=(blk_cell BK111.out 1).trans rfl;have hcz28_2:w27.cell? ⟨gb111,2,none⟩=some (.int .i64 0):=(blk_cell BK111.out 2).trans rfl;have hcz28_3:w27.cell? ⟨gb111,3,none⟩=some (.int .i64 0):=(blk_cell BK111.out 3).trans rfl;have hfz28_0:=blk_frozen BK111.out 0;have hfz28_1:=blk_frozen BK111.out 1;have hfz28_2:=blk_frozen BK111.out 2;have hfz28_3:=blk_frozen BK111.out 3;have p112:0≤(((rd_T47 t107 x29_1).f0):Int):=of_decide_eq_true zq1;have q112:((rd_T47 t107 x29_1).f0) < (l2.length:Int):=of_decide_eq_true zq1;obtain ⟨ad112,A112_0,c112_0,e112,hx112_0,hl112_0,hi112_0⟩:=at_L9 HR2.out ((rd_T47 t107 x29_1).f0) p112 q112;cases e112;have hn112_0:ad112.block≠gb111:=Nat.ne_of_lt (Nat.lt_of_lt_of_le zq53 GW111.out);have hn112_1:ad112.block≠gb111:=Nat.ne_of_lt (Nat.lt_of_lt_of_le zq53 GW111.out);have hn112_2:ad112.block≠gb111:=Nat.ne_of_lt (Nat.lt_of_lt_of_le zq53 GW111.out);have hn112_3:ad112.block≠gb111:=Nat.ne_of_lt (Nat.lt_of_lt_of_le zq53 GW111.out);replace hx112_0:=(HB.out.cell (World.block_lt_of_cell? w _ hx112_0)).trans hx112_0;have HR112_0:=am hi112_0;have HC112_0:=am hl112_0;clear hi112_0 hl112_0;replace hx112_0:=(cell_far (p:=⟨gb111,0,none⟩) zq113 (.int .i8 ((rd_T47 t107 x29_1).f0))).trans hx112_0;replace hx112_0:=(cell_far (p:=⟨gb111,1,none⟩) zq112 (.int .i64 ((rd_T47 t107 x29_1).f1))).trans hx112_0;replace hx112_0:=(cell_far (p:=⟨gb111,2,none⟩) zq111 (.int .i64 ((rd_T47 t107 x29_1).f2))).trans hx112_0;replace hx112_0:=(cell_far (p:=⟨gb111,3,none⟩) zq110 (.int .i64 ((rd_T47 t107 x29_1).f3))).trans hx112_0;clear hn112_0;clear hn112_1;clear hn112_2;clear hn112_3;replace p112:=eq_true p112;replace q112:=eq_true q112;have p113:0≤(x29_1:Int):=of_decide_eq_true zq1;have q113:x29_1 < (l2.length:Int):=of_decide_eq_true zq1;obtain ⟨ad113,A113_0,c113_0,e113,hx113_0,hl113_0,hi113_0⟩:=at_L9 HR2.out x29_1 p113 q113;obtain rfl:ad112=ad113:=(by injection e113);have hn113_0:ad112.block≠gb111:=Nat.ne_of_lt (Nat.lt_of_lt_of_le zq73 GW111.out);have hn113_1:ad112.block≠gb111:=Nat.ne_of_lt (Nat.lt_of_lt_of_le zq73 GW111.out);have hn113_2:ad112.block≠gb111:=Nat.ne_of_lt (Nat.lt_of_lt_of_le zq73 GW111.out);have hn113_3:ad112.block≠gb111:=Nat.ne_of_lt (Nat.lt_of_lt_of_le zq73 GW111.out);replace hx113_0:=(HB.out.cell (World.block_lt_of_cell? w _ hx113_0)).trans hx113_0;have HR113_0:=am hi113_0;have HC113_0:=am hl113_0;clear hi113_0 hl113_0;replace hx113_0:=(cell_far (p:=⟨gb111,0,none⟩) zq141 (.int .i8 ((rd_T47 t107 x29_1).f0))).trans hx113_0;replace hx113_0:=(cell_far (p:=⟨gb111,1,none⟩) zq140 (.int .i64 ((rd_T47 t107 x29_1).f1))).trans hx113_0;replace hx113_0:=(cell_far (p:=⟨gb111,2,none⟩) zq139 (.int .i64 ((rd_T47 t107 x29_1).f2))).trans hx113_0;replace hx113_0:=(cell_far (p:=⟨gb111,3,none⟩) zq138 (.int .i64 ((rd_T47 t107 x29_1).f3))).trans hx113_0;clear hn113_0;clear hn113_1;clear hn113_2;clear hn113_3;replace p113:=eq_true p113;replace q113:=eq_true q113)|(go_at_call 39;(with_reducible refine (slices_Equal_Hoist_int8.calls k1 _ _ (rd_L9 l2 x29_1) _ _ (rd_L9 l2 ((rd_T47 t107 x29_1).f0)) false _ ?side1 ?side2 ?side3 ?side4 A23.out).mono ?_);(case side1=>exact Kd.C_below HR113_0.out zq41);(case side2=>exact HC113_0.out);(case side3=>exact Kd.C_below HR112_0.out zq41);(case side4=>exact HC112_0.out);rintro e w' ⟨rfl,⟨nd,rfl⟩⟩))
             go_ret2
             exact ⟨by first|rfl|(simp [errW_none,errW_some,IntKind.wrap_i64,wrap64];done)|(simp [errW_none,errW_some] <;> rfl)|(simp [*,errW_none,errW_some] <;> rfl),by repeat (first|(with_reducible first|exact HB.out|apply below_alloc|apply pw_below_drewN|apply below_drew1|refine below_set ?_ GE111.out)|exact HB.out)⟩
           ·rw [if_neg c22] at H;exact absurd H (by simp)
          ·rw [if_neg c21] at H;have c21b0:decide (0≤((rd_T47 t107 x29_1).f2))=false:=decide_eq_false c21;clear c21;have H':=am H;clear H;have p110:0≤(x29_1:Int):=of_decide_eq_true zq1;have q110:x29_1 < (t107.length:Int):=of_decide_eq_true zq1;obtain ⟨ad110,e110,hx110_0,hx110_1,hx110_2,hx110_3⟩:=at_T47 (Kd.R_reads' HO_27.out).2.2 x29_1 p110 q110;cases e110;replace p110:=eq_true p110;replace q110:=eq_true q110
           go_wp2_with (first|((with_reducible refine gate_dst (N:=10) rfl ?_);refine box_event ?hg (N:=10) ?hd (cs:=#[.int .i8 0,.int .i64 0,.int .i64 0,.int .i64 0]) (t:=47) ?hr ?_;(case hd=>rfl);(case hg=>rfl);(case hr=>exact zq15);intro gb111 hg w29 hbox hb;have n0_:=am (Kd.R_below (Kd.R_elderB zq79 gb111 (Nat.le_of_eq hg.symm)) hb);have n1_:=am (below_step zq0 hb);have n2_:=am (hbox);have n3_:=am ((by rw [hg];exact (below_size zq0):w.heap.size≤gb111));have n4_:=am ((by rw [hg];exact (below_size zq0):w.heap.size≤gb111));clear HO_27;clear HB;have HO_27:=n0_;have HB:=n1_;have BK111:=n2_;have GW111:=n3_;have GE111:=n4_;clear n0_ n1_ n2_ n3_ n4_;clear hb hbox hg;have hcz30_0:w29.cell? ⟨gb111,0,none⟩=some (.int .i8 0):=(blk_cell BK111.out 0).trans rfl;have hcz30_1:w29.cell? ⟨gb111,1,none⟩=some (.int .i64 0):=(blk_cell BK111.out 1).trans rfl;have hcz30_2:w29.cell? ⟨gb111,2,none⟩=some (.int .i64 0):=(blk_cell BK111.out 2).trans rfl;have hcz30_3:w29.cell? ⟨gb111,3,none⟩=some (.int .i64 0):=(blk_cell BK111.out 3).trans rfl;have hfz30_0:=blk_frozen BK111.out 0;have hfz30_1:=blk_frozen BK111.out 1;have hfz30_2:=blk_frozen BK111.out 2;have hfz30_3:=blk_frozen BK111.out 3;have p112:0≤(((rd_T47 t107 x29_1).f0):Int):=of_decide_eq_true zq1;have q112:((rd_T47 t107 x29_1).f0) < (l2.length:Int):=of_decide_eq_true zq1;obtain ⟨ad112,A112_0,c112_0,e112,hx112_0,hl112_0,hi112_0⟩:=at_L9 HR2.out ((rd_T47 t107 x29_1).f0) p112 q112;cases e112;have hn112_0:ad112.block≠gb111:=Nat.ne_of_lt (Nat.lt_of_lt_of_le zq53 GW111.out);have hn112_1:ad112.block≠gb111:=Nat.ne_of_lt (Nat.lt_of_lt_of_le zq53 GW111.out);have hn112_2:ad112.block≠gb111:=Nat.ne_of_lt (Nat.lt_of_lt_of_le zq53 GW111.out);have hn112_3:ad112.block≠gb111:=Nat.ne_of_lt (Nat.lt_of_lt_of_le zq53 GW111.out);replace hx112_0:=(HB.out.cell (World.block_lt_of_cell? w _ hx112_0)).trans hx112_0;have HR112_0:=am hi112_0;have HC112_0:=am hl112_0;clear hi112_0 hl112_0;replace hx112_0:=(cell_far (p:=⟨gb111,0,none⟩) zq113 (.int .i8 ((rd_T47 t107 x29_1).f0))).trans hx112_0;replace hx112_0:=(cell_far (p:=⟨gb111,1,none⟩) zq112 (.int .i64 ((rd_T47 t107 x29_1).f1))).trans hx112_0;replace hx112_0:=(cell_far (p:=⟨gb111,2,none⟩) zq111 (.int .i64 ((rd_T47 t107 x29_1).f2))).trans hx112_0;replace hx112_0:=(cell_far (p:=⟨gb111,3,none⟩) zq110 (.int .i64 ((rd_T47 t107 x29_1).f3))).trans hx112_0;clear hn112_0;clear hn112_1;clear hn112_2;clear hn112_3;replace p112:=eq_true p112;replace q112:=eq_true q112))
           go_roundg k1
           case measure=>have:=HK1.out;omega
           case rel=>exact ⟨(wrap64 (x29_1 + 1)),zq3,H',⟨by have:=HK1.out;omega⟩,⟨by (with_reducible repeat (first|apply Kd.R_alloc|apply Kd.R_drewN|apply Kd.R_drew));exact Kd.R_mono (Kd.R_far (p:=⟨gb111,3,none⟩) (Kd.R_far (p:=⟨gb111,2,none⟩) (Kd.R_far (p:=⟨gb111,1,none⟩) (Kd.R_far (p:=⟨gb111,0,none⟩) (Kd.R_mono HO_27.out (fun k_ hk=>(⟨hk,hk.2⟩:_∧k_≠gb111))) (fun _ hk=>hk.2) (.int .i8 ((rd_T47 t107 x29_1).f0))) (fun _ hk=>hk.2) (.int .i64 ((rd_T47 t107 x29_1).f1))) (fun _ hk=>hk.2) (.int .i64 ((rd_T47 t107 x29_1).f2))) (fun _ hk=>hk.2) (.int .i64 ((rd_T47 t107 x29_1).f3))) (fun _ hk=>trivial)⟩,⟨by repeat (first|(with_reducible first|exact HB.out|apply below_alloc|apply pw_below_drewN|apply below_drew1|refine below_set ?_ GE111.out)|exact HB.out)⟩⟩
         ·rw [if_neg c20] at H;exact absurd H (by simp)
        ·rw [if_neg c19] at H;exact absurd H (by simp)
       ·rw [if_neg c18] at H;have c18b0:decide (0≤((rd_T47 t107 x29_1).f0))=false:=decide_eq_false c18;clear c18
        by_cases c31:((rd_T47 t107 x29_1).f2)≥0
        ·rw [if_pos c31] at H;have c31b0:decide (0≤((rd_T47 t107 x29_1).f2))=true:=decide_eq_true c31;clear c31
         by_cases c32:x29_1 < (l2.length:Int)
         ·rw [if_pos c32] at H;have c32b0:decide (x29_1 < (l2.length:Int))=true:=decide_eq_true c32;clear c32;replace H:=Option.bind_eq_some_iff.mp H;obtain ⟨t116,A330,H⟩:=H;replace H:(if t116=true then (impl_FirstBlamed.l0 k1 l1 l2 t107 (t107.length:Int) (wrap64 (x29_1 + 1))) else (some (x29_1,0)))=some (r1,r2):=H;have A33:=am A330;clear A330
          by_cases c34:t116=true
          ·subst c34
           have H1:(impl_FirstBlamed.l0 k1 l1 l2 t107 (t107.length:Int) (wrap64 (x29_1 + 1)))=some (r1,r2):=by rw [if_pos rfl] at H;exact H
           clear H;have H:=H1;clear H1;have H':=am H;clear H;have p110:0≤(x29_1:Int):=of_decide_eq_true zq1;have q110:x29_1 < (t107.length:Int):=of_decide_eq_true zq1;obtain ⟨ad110,e110,hx110_0,hx110_1,hx110_2,hx110_3⟩:=at_T47 (Kd.R_reads' HO_27.out).2.2 x29_1 p110 q110;cases e110;replace p110:=eq_true p110;replace q110:=eq_true q110
           go_wp2_with (first|((with_reducible refine gate_dst (N:=10) rfl ?_);refine box_event ?hg (N:=10) ?hd (cs:=#[.int .i8 0,.int .i64 0,.int .i64 0,.int .i64 0]) (t:=47) ?hr ?_;(case hd=>rfl);(case hg=>rfl);(case hr=>exact zq15);intro gb111 hg w35 hbox hb;have n0_:=am (Kd.R_below (Kd.R_elderB zq79 gb111 (Nat.le_of_eq hg.symm)) hb);have n1_:=am (below_step zq0 hb);have n2_:=am (hbox);have n3_:=am ((by rw [hg];exact (below_size zq0):w.heap.size≤gb111));have n4_:=am ((by rw [hg];exact (below_size zq0):w.heap.size≤gb111));clear HO_27;clear HB;have HO_27:=n0_;have HB:=n1_;have BK111:=n2_;have GW111:=n3_;have GE111:=n4_;clear n0_ n1_ n2_ n3_ n4_;clear hb hbox hg;have hcz36_0:w35.cell? ⟨gb111,0,none⟩=some (.int .i8 0):=(blk_cell BK111.out 0).trans rfl;have hcz36_1:w35.cell? ⟨gb111,1,none⟩=some (.int .i64 0):=(blk_cell BK111.out 1).trans rfl;have hcz36_2:w35.cell? ⟨gb111,2,none⟩=some (.int .i64 0):=(blk_cell BK111.out 2).trans rfl;have hcz36_3:w35.cell? ⟨gb111,3,none⟩=some (.int .i64 0):=(blk_cell BK111.out 3).trans rfl;have hfz36_0:=blk_frozen BK111.out 0;have hfz36_1:=blk_frozen BK111.out 1;have hfz36_2:=blk_frozen BK111.out 2;have hfz36_3:=blk_frozen BK111.out 3;have p115:0≤(x29_1:Int):=of_decide_eq_true zq1;have q115:x29_1 < (l2.length:Int):=of_decide_eq_true zq1;obtain ⟨ad115,A115_0,c115_0,e115,hx115_0,hl115_0,hi115_0⟩:=at_L9 HR2.out x29_1 p115 q115;cases e115;have hn115_0:ad115.block≠gb111:=Nat.ne_of_lt (Nat.lt_of_lt_of_le zq72 GW111.out);have hn115_1:ad115.block≠gb111:=Nat.ne_of_lt (Nat.lt_of_lt_of_le zq72 GW111.out);have hn115_2:ad115.block≠gb111:=Nat.ne_of_lt (Nat.lt_of_lt_of_le zq72 GW111.out);have hn115_3:ad115.block≠gb111:=Nat.ne_of_lt (Nat.lt_of_lt_of_le zq72 GW111.out);replace hx115_0:=(HB.out.cell (World.block_lt_of_cell? w _ hx115_0)).trans hx115_0;have HR115_0:=am hi115_0;have HC115_0:=am hl115_0;clear hi115_0 hl115_0;replace hx115_0:=(cell_far (p:=⟨gb111,0,none⟩) zq137 (.int .i8 ((rd_T47 t107 x29_1).f0))).trans hx115_0;replace hx115_0:=(cell_far (p:=⟨gb111,1,none⟩) zq136 (.int .i64 ((rd_T47 t107 x29_1).f1))).trans hx115_0;replace hx115_0:=(cell_far (p:=⟨gb111,2,none⟩) zq135 (.int .i64 ((rd_T47 t107 x29_1).f2))).trans hx115_0;replace hx115_0:=(cell_far (p:=⟨gb111,3,none⟩) zq134 (.int .i64 ((rd_T47 t107 x29_1).f3))).trans hx115_0;clear hn115_0;clear hn115_1;clear hn115_2;clear hn115_3;replace p115:=eq_true p115;replace q115:=eq_true q115)|(go_at_call 39;(with_reducible refine (slices_Equal_Hoist_int8.calls k1 _ _ (rd_L9 l2 x29_1) _ _ l1 true _ ?side1 ?side2 ?side3 ?side4 A33.out).mono ?_);(case side1=>exact Kd.C_below HR115_0.out zq41);(case side2=>exact HC115_0.out);(case side3=>exact Kd.C_below HR1.out zq41);(case side4=>exact HC1.out);rintro e w' ⟨rfl,⟨nd,rfl⟩⟩))
           go_roundg k1
           case measure=>have:=HK1.out;omega
           case rel=>exact ⟨(wrap64 (x29_1 + 1)),zq3,H',⟨by have:=HK1.out;omega⟩,⟨by (with_reducible repeat (first|apply Kd.R_alloc|apply Kd.R_drewN|apply Kd.R_drew));exact Kd.R_mono (Kd.R_far (p:=⟨gb111,3,none⟩) (Kd.R_far (p:=⟨gb111,2,none⟩) (Kd.R_far (p:=⟨gb111,1,none⟩) (Kd.R_far (p:=⟨gb111,0,none⟩) (Kd.R_mono HO_27.out (fun k_ hk=>(⟨hk,hk.2⟩:_∧k_≠gb111))) (fun _ hk=>hk.2) (.int .i8 ((rd_T47 t107 x29_1).f0))) (fun _ hk=>hk.2) (.int .i64 ((rd_T47 t107 x29_1).f1))) (fun _ hk=>hk.2) (.int .i64 ((rd_T47 t107 x29_1).f2))) (fun _ hk=>hk.2) (.int .i64 ((rd_T47 t107 x29_1).f3))) (fun _ hk=>trivial)⟩,⟨by repeat (first|(with_reducible first|exact HB.out|apply below_alloc|apply pw_below_drewN|apply below_drew1|refine below_set ?_ GE111.out)|exact HB.out)⟩⟩
          ·replace c34:=Bool.eq_false_iff.mpr c34;subst c34
           have H1:(some (x29_1,0))=some (r1,r2):=by rw [if_neg (show ¬ (false=true) by decide)] at H;exact H
           clear H;have H:=H1;clear H1;simp only [Option.some.injEq,Prod.mk.injEq] at H;obtain ⟨rfl,rfl⟩:=H;have p110:0≤(x29_1:Int):=of_decide_eq_true zq1;have q110:x29_1 < (t107.length:Int):=of_decide_eq_true zq1;obtain ⟨ad110,e110,hx110_0,hx110_1,hx110_2,hx110_3⟩:=at_T47 (Kd.R_reads' HO_27.out).2.2 x29_1 p110 q110;cases e110;replace p110:=eq_true p110;replace q110:=eq_true q110
           go_wp2_with (first|((with_reducible refine gate_dst (N:=10) rfl ?_);refine box_event ?hg (N:=10) ?hd (cs:=#[.int .i8 0,.int .i64 0,.int .i64 0,.int .i64 0]) (t:=47) ?hr ?_;(case hd=>rfl);(case hg=>rfl);(case hr=>exact zq15);intro gb111 hg w37 hbox hb;have n0_:=am (Kd.R_below (Kd.R_elderB zq79 gb111 (Nat.le_of_eq hg.symm)) hb);have n1_:=am (below_step zq0 hb);have n2_:=am (hbox);have n3_:=am ((by rw [hg];exact (below_size zq0):w.heap.size≤gb111));have n4_:=am ((by rw [hg];exact (below_size zq0):w.heap.size≤gb111));clear HO_27;clear HB;have HO_27:=n0_;have HB:=n1_;have BK111:=n2_;have GW111:=n3_;have GE111:=n4_;clear n0_ n1_ n2_ n3_ n4_;clear hb hbox hg;have hcz38_0:w37.cell? ⟨gb111,0,none⟩=some (.int .i8 0):=(blk_cell BK111.out 0).trans rfl;have hcz38_1:w37.cell? ⟨gb111,1,none⟩=some (.int .i64 0):=(blk_cell BK111.out 1).trans rfl;have hcz38_2:w37.cell? ⟨gb111,2,none⟩=some (.int .i64 0):=(blk_cell BK111.out 2).trans rfl;have hcz38_3:w37.cell? ⟨gb111,3,none⟩=some (.int .i64 0):=(blk_cell BK111.out 3).trans rfl;have hfz38_0:=blk_frozen BK111.out 0;have hfz38_1:=blk_frozen BK111.out 1;have hfz38_2:=blk_frozen BK111.out 2;have hfz38_3:=blk_frozen BK111.out 3;have p115:0≤(x29_1:Int):=of_decide_eq_true zq1;have q115:x29_1 < (l2.length:Int):=of_decide_eq_true zq1;obtain ⟨ad115,A115_0,c115_0,e115,hx115_0,hl115_0,hi115_0⟩:=at_L9 HR2.out x29_1 p115 q115;cases e115;have hn115_0:ad115.block≠gb111:=Nat.ne_of_lt (Nat.lt_of_lt_of_le zq72 GW111.out);have hn115_1:ad115.block≠gb111:=Nat.ne_of_lt (Nat.lt_of_lt_of_le zq72 GW111.out);have hn115_2:ad115.block≠gb111:=Nat.ne_of_lt (Nat.lt_of_lt_of_le zq72 GW111.out);have hn115_3:ad115.block≠gb111:=Nat.ne_of_lt (Nat.lt_of_lt_of_le zq72 GW111.out);replace hx115_0:=(HB.out.cell (World.block_lt_of_cell? w _ hx115_0)).trans hx115_0;have HR115_0:=am hi115_0;have HC115_0:=am hl115_0;clear hi115_0 hl115_0;replace hx115_0:=(cell_far (p:=⟨gb111,0,none⟩) zq137 (.int .i8 ((rd_T47 t107 x29_1).f0))).trans hx115_0;replace hx115_0:=(cell_far (p:=⟨gb111,1,none⟩) zq136 (.int .i64 ((rd_T47 t107 x29_1).f1))).trans hx115_0;replace hx115_0:=(cell_far (p:=⟨gb111,2,none⟩) zq135 (.int .i64 ((rd_T47 t107 x29_1).f2))).trans hx115_0;replace hx115_0:=(cell_far (p:=⟨gb111,3,none⟩) zq134 (.int .i64 ((rd_T47 t107 x29_1).f3))).trans hx115_0;clear hn115_0;clear hn115_1;clear hn115_2;clear hn115_3;replace p115:=eq_true p115;replace q115:=eq_true q115)|(go_at_call 39;(with_reducible refine (slices_Equal_Hoist_int8.calls k1 _ _ (rd_L9 l2 x29_1) _ _ l1 false _ ?side1 ?side2 ?side3 ?side4 A33.out).mono ?_);(case side1=>exact Kd.C_below HR115_0.out zq41);(case side2=>exact HC115_0.out);(case side3=>exact Kd.C_below HR1.out zq41);(case side4=>exact HC1.out);rintro e w' ⟨rfl,⟨nd,rfl⟩⟩))
           go_ret2
           exact ⟨by first|rfl|(simp [errW_none,errW_some,IntKind.wrap_i64,wrap64];done)|(simp [errW_none,errW_some] <;> rfl)|(simp [*,errW_none,errW_some] <;> rfl),by repeat (first|(with_reducible first|exact HB.out|apply below_alloc|apply pw_below_drewN|apply below_drew1|refine below_set ?_ GE111.out)|exact HB.out)⟩
         ·rw [if_neg c32] at H;exact absurd H (by simp)
        ·rw [if_neg c31] at H;have c31b0:decide (0≤((rd_T47 t107 x29_1).f2))=false:=decide_eq_false c31;clear c31;have H':=am H;clear H;have p110:0≤(x29_1:Int):=of_decide_eq_true zq1;have q110:x29_1 < (t107.length:Int):=of_decide_eq_true zq1;obtain ⟨ad110,e110,hx110_0,hx110_1,hx110_2,hx110_3⟩:=at_T47 (Kd.R_reads' HO_27.out).2.2 x29_1 p110 q110;cases e110;replace p110:=eq_true p110;replace q110:=eq_true q110
         go_wp2_with (first|((with_reducible refine gate_dst (N:=10) rfl ?_);refine box_event ?hg (N:=10) ?hd (cs:=#[.int .i8 0,.int .i64 0,.int .i64 0,.int .i64 0]) (t:=47) ?hr ?_;(case hd=>rfl);(case hg=>rfl);(case hr=>exact zq15);intro gb111 hg w39 hbox hb;have n0_:=am (Kd.R_below (Kd.R_elderB zq79 gb111 (Nat.le_of_eq hg.symm)) hb);have n1_:=am (below_step zq0 hb);have n2_:=am (hbox);have n3_:=am ((by rw [hg];exact (below_size zq0):w.heap.size≤gb111));have n4_:=am ((by rw [hg];exact (below_size zq0):w.heap.size≤gb111));clear HO_27;clear HB;have HO_27:=n0_;have HB:=n1_;have BK111:=n2_;have GW111:=n3_;have GE111:=n4_;clear n0_ n1_ n2_ n3_ n4_;clear hb hbox hg;have hcz40_0:w39.cell? ⟨gb111,0,none⟩=some (.int .i8 0):=(blk_cell BK111.out 0).trans rfl;have hcz40_1:w39.cell? ⟨gb111,1,none⟩=some (.int .i64 0):=(blk_cell BK111.out 1).trans rfl;have hcz40_2:w39.cell? ⟨gb111,2,none⟩=some (.int .i64 0):=(blk_cell BK111.out 2).trans rfl;have hcz40_3:w39.cell? ⟨gb111,3,none⟩=some (.int .i64 0):=(blk_cell BK111.out 3).trans rfl;have hfz40_0:=blk_frozen BK111.out 0;have hfz40_1:=blk_frozen BK111.out 1;have hfz40_2:=blk_frozen BK111.out 2;have hfz40_3:=blk_frozen BK111.out 3))
         go_roundg k1
         case measure=>have:=HK1.out;omega
         case rel=>exact ⟨(wrap64 (x29_1 + 1)),zq3,H',⟨by have:=HK1.out;omega⟩,⟨by (with_reducible repeat (first|apply Kd.R_alloc|apply Kd.R_drewN|apply Kd.R_drew));exact Kd.R_mono (Kd.R_far (p:=⟨gb111,3,none⟩) (Kd.R_far (p:=⟨gb111,2,none⟩) (Kd.R_far (p:=⟨gb111,1,none⟩) (Kd.R_far (p:=⟨gb111,0,none⟩) (Kd.R_mono HO_27.out (fun k_ hk=>(⟨hk,hk.2⟩:_∧k_≠gb111))) (fun _ hk=>hk.2) (.int .i8 ((rd_T47 t107 x29_1).f0))) (fun _ hk=>hk.2) (.int .i64 ((rd_T47 t107 x29_1).f1))) (fun _ hk=>hk.2) (.int .i64 ((rd_T47 t107 x29_1).f2))) (fun _ hk=>hk.2) (.int .i64 ((rd_T47 t107 x29_1).f3))) (fun _ hk=>trivial)⟩,⟨by repeat (first|(with_reducible first|exact HB.out|apply below_alloc|apply pw_below_drewN|apply below_drew1|refine below_set ?_ GE111.out)|exact HB.out)⟩⟩
      ·rw [if_neg c17] at H;exact absurd H (by simp)
     ·rw [if_neg c16] at H;exact absurd H (by simp)
    ·rw [if_neg c15] at H;have c15b0:decide (x29_1 < (t107.length:Int))=false:=decide_eq_false c15;clear c15;simp only [Option.some.injEq,Prod.mk.injEq] at H;obtain ⟨rfl,rfl⟩:=H
     go_wp2
     go_ret2
     exact ⟨by first|rfl|(simp [errW_none,errW_some,IntKind.wrap_i64,wrap64];done)|(simp [errW_none,errW_some] <;> rfl)|(simp [*,errW_none,errW_some] <;> rfl),by repeat (first|(with_reducible first|exact HB.out|apply below_alloc|apply pw_below_drewN|apply below_drew1)|exact HB.out)⟩
 ·rw [if_neg c7] at H;have c7b0:(t106 == 0)=false:=beq_eq_false_iff_ne.mpr c7;have c7b1:(t106 != 0)=true:=bne_iff_ne.mpr c7;simp only [Option.some.injEq,Prod.mk.injEq] at H;obtain ⟨rfl,rfl⟩:=H
  go_enter Try.func18,Try.ntmps18
  go_wp2_with (first|((with_reducible refine gate_callee (f:=25) rfl ?_);refine goesL_ (some 14) rfl rfl Try.func25 zq21 rfl #[.slice A0 l0.length c0,.slice A1 l1.length c1,.slice none 0 0] rfl zq2 ?_;(refine (impl_lineCode.calls k _ _ l0 _ _ l1 _ _ ([]:List (S51)) t101 _ ?side1 ?side2 ?side3 ?side4 ?side5 ?side6 A4.out).mono ?_);(case side1=>exact zq10);(case side2=>exact HC0.out);(case side3=>exact zq24);(case side4=>exact HC1.out);(case side5=>exact Kd.C_nil _ _);(case side6=>exact Nat.le_refl _);rintro e w41 ⟨rfl,hb⟩;refine ⟨_,rfl,?_⟩;have n0_:=am (below_step zq0 hb);clear HB;have HB:=n0_;clear n0_;(try clear hb);(try clear hb2);(try clear hk);(try clear hi))|((with_reducible refine gate_callee (f:=37) rfl ?_);refine goesL_ (some 20) rfl rfl Try.func37 zq21 rfl #[.bool ((l2.length:Int) == (l0.length:Int)),.int .i64 2] rfl zq2 ?_;(with_reducible refine (impl_unless.calls ((l2.length:Int) == (l0.length:Int)) 2 t102 _ A5.out).mono ?_);rintro e w' ⟨rfl,⟨nd,rfl⟩⟩;refine ⟨_,rfl,?_⟩)|((with_reducible refine gate_dst (N:=21) rfl ?_);refine Kd.R_lit (Kd.int .i64) _ 2 ?hg (N:=21) ?hd (xs:=([t101,t102]:List Int)) (inner:=[.int .i64 t101,.int .i64 t102]) (ok:=fun _=>True) (okp:=fun _=>True) ?hr ?hp (fun _ hk=>hk) trivial (Below.refl _ _) (Nat.le_refl _) (by simp) ?_;(case hd=>rfl);(case hg=>rfl);(case hr=>exact zq15);(case hp=>exact (Reps.one (show Kd.M (Kd.int .i64) _ _ _ t101 [.int .i64 t101] from rfl) (Reps.one (show Kd.M (Kd.int .i64) _ _ _ t102 [.int .i64 t102] from rfl) (Reps.none _ _))));intro v104 w42 ho43 hb hg_ hnew_;clear hg_ hnew_;(first|rw [← Ny103.out] at ho43|(simp only [Int.reduceToNat] at ho43;rw [← Ny103.out] at ho43));have n0_:=am (Kd.R_lower ho43 (below_size zq0));have n1_:=am (below_step zq0 hb);clear HB;have HO105:=n0_;have HB:=n1_;clear n0_ n1_;clear hb ho43;obtain ⟨Ao44,co44,eo44⟩:=Kd.R_slice HO105.out;subst eo44)|((with_reducible refine gate_callee (f:=36) rfl ?_);refine goesL_ (some 22) rfl rfl Try.func36 zq21 rfl #[.slice Ao44 y103.length co44] rfl zq2 ?_;(with_reducible refine (impl_firstOf.calls k _ _ y103 t106 _ ?side1 ?side2 A6.out).mono ?_);(case side1=>exact zq130);(case side2=>exact (Kd.R_reads' HO105.out).2.1);rintro e w' ⟨rfl,⟨nd,rfl⟩⟩;refine ⟨_,rfl,?_⟩))
  go_ret2
  exact ⟨by first|rfl|(simp [errW_none,errW_some,IntKind.wrap_i64,wrap64];done)|(simp [errW_none,errW_some] <;> rfl)|(simp [*,errW_none,errW_some] <;> rfl),by repeat (first|(with_reducible first|exact HB.out|apply below_alloc|apply pw_below_drewN|apply below_drew1)|exact HB.out)⟩
end Go.Proofs.Ytcajnbkbdbkpgac.G
end

section
namespace Go.Proofs.Ytcajnbkbdbkpgac.G
open Go.RowKit Go.Proofs.YtcajnbkbdbkpgacW.PrintWords Go.Proofs.YtcajnbkbdbkpgacW.PrintLast Go.Proofs.YtcajnbkbdbkpgacW.PrintMore
attribute [local go_sem] max2_int min2_int max_two min_two max_three min_three max_four min_four
set_option linter.unusedVariables false
set_option linter.unusedSimpArgs false
def slices_Clone_Hoist_int8.f (l0:List (Int)):Option (List (Int)):=if l0.length < 140737488355328 then some l0 else none
set_option maxHeartbeats 4000000 in
theorem slices_Clone_Hoist_int8.calls (A0:Option Addr) (c0:Nat) (l0:List (Int)) (r:List (Int)) (w:World) (hr0:Kd.C (Kd.int .i8) w A0 l0.length l0) (hc0:l0.length≤c0) (h:slices_Clone_Hoist_int8.f l0=some r) :
  Calls Try.prog 45 #[.slice A0 l0.length c0] w fun e w'=>∃ v0_:Value,e=.returned (v0_)∧Kd.R (Kd.int .i8) 45 w' w.heap.size (fun _=>True) v0_ r∧Below w.heap.size w w':=by
 unfold slices_Clone_Hoist_int8.f at h
 by_cases hl:l0.length < 140737488355328
 ·rw [if_pos hl] at h;obtain rfl:=Option.some.inj h;clear h;have hr0':=hr0;have HR0:=am hr0;clear hr0
  cases A0 with
  | none =>
   have h0:l0=[]:=by
    rcases l0 with _|⟨x,l⟩
    ·rfl
    ·obtain ⟨ad,e,_⟩:=hr0'.2.2 (by simp);cases e
   subst h0;clear hr0'
   have he:=fun W=>Lib.run_eql_slice_nil (P:=Try.prog) W 27 45 none 0 c0 0 0 Try.underlying27
   go_enter Try.func45,Try.ntmps45
   go_wp2
   go_ret
   exact ⟨_,rfl,Kd.R_nil _ _ _ _ _,Below.refl _ _⟩
  | some ad =>
   clear hr0'
   have he:=fun W=>Lib.run_eql_slice_nil (P:=Try.prog) W 27 45 (some ad) l0.length c0 0 0 Try.underlying27
   go_enter Try.func45,Try.ntmps45
   go_wp2_with (first|((with_reducible refine gate_dst (N:=5) rfl ?_);refine Kd.R_lit (Kd.int .i8) _ 45 ?hg (N:=5) ?hd (xs:=([]:List (Int))) (inner:=[]) (ok:=fun _=>True) (okp:=fun _=>True) ?hr ?hp (fun _ hk=>hk) trivial (Below.refl _ _) (Nat.le_refl _) (by simp) ?_;(case hd=>rfl);(case hg=>rfl);(case hr=>exact zq15);(case hp=>exact (Reps.none _ _));intro v1 w1 ho1 hb1 hg_ hnew_;clear hg_ hnew_;have HO1:=am ho1;have HB1:=am hb1;clear ho1 hb1)|(at_builtin;refine Kd.R_append_rows (Kd.int .i8) (w0:=w) w.heap.size rfl (.tmp 5) (.tmp 6) 27 45 (.int .i8 0) 1 rfl Try.underlying27 info45 rfl (by decide) (by omega) v1 [] l0 _ _ _ (fun _=>True) (fun _=>False) rfl rfl HO1.out (Kd.C_below HR0.out HB1.out) (fun _ _ h=>h) (fun _ h=>h.elim) (fun _ _=>trivial) HB1.out HB1.out.size (by simp only [List.length_nil];omega) ?_;intro v2 w2 ho2 hb2 _ _;have HO2:=am ho2;have HB2:=am hb2;clear ho2 hb2))
   go_ret
   exact ⟨_,rfl,HO2.out,HB2.out⟩
 ·rw [if_neg hl] at h;cases h
end Go.Proofs.Ytcajnbkbdbkpgac.G
end
