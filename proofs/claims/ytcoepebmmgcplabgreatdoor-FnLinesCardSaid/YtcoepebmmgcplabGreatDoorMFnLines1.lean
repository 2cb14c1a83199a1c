/- The law's functions, their contracts, and the plain lemmas: texts of this claim, laid together. -/
import Derived.Shelf.Strings.Builder1
import Derived.Shelf.Strings.Builder2
import Derived.Shelf.Strings.OnBuilder
import Derived.Shelf.Strings.BuilderF
import Derived.Shelf.Strings.BuilderK
import Derived.Shelf.Utf8.RuneCount
import Derived.Shelf.Strings.Builder2Cap
import Derived.Shelf.Strconv.Itoa0
import Derived.Shelf.Strconv.Itoa1
import Derived.Shelf.LaysM
import Derived.Shelf.Strconv.Itoa2
import Derived.Shelf.Strconv.Itoa3
import Derived.Shelf.Strconv.Itoa4
import Derived.Shelf.Strconv.ParseIntEmpty
import Derived.Shelf.Strconv.Clone
import Derived.Shelf.Strconv.SyntaxError
import Derived.Shelf.LaysC
import Derived.Shelf.Strconv.ToError
import Derived.Shelf.Strconv.Lower
import Derived.Shelf.Strconv.ParseUint10
import Derived.Shelf.Strconv.ParseUint10Empty
import Derived.Shelf.Strconv.ParseUint10Any
import Derived.Shelf.Strconv.ParseInt10
import Derived.Shelf.Strconv.RangeError
import Derived.Shelf.Strconv.ToErrorRange
import Derived.Shelf.Strconv.ParseUintEmpty
import Derived.Shelf.Strconv.ParseUint10b64
import Derived.Shelf.Strconv.ParseUint10b32
import Derived.Shelf.Strconv.ParseUint10b16
import Derived.Shelf.Strconv.ParseUint10b8
import Derived.Shelf.Strconv.ParseUint10At
import Derived.Shelf.Strconv.ParseInt10At64
import Derived.Shelf.Strconv.ParseInt10At32
import Derived.Shelf.Strconv.ParseInt10At16
import Derived.Shelf.Strconv.ParseInt10At8
import Derived.Shelf.Strconv.ParseInt10All
import Derived.Shelf.Strconv.ParseIntPublic10
import Derived.Shelf.Strconv.ErrVarParseInt
import Derived.Shelf.Strings.Search1
import Derived.Shelf.Strings.Search2
import Derived.Shelf.Strings.Search3
import Derived.Shelf.Strings.Count
import Derived.Shelf.Strings.Shaped
import Derived.Shelf.Strings.Split
import Derived.Shelf.Strings.SplitShaped
import Derived.Shelf.Unicode.Decode
import Derived.Shelf.Strings.RuneCount
import Derived.Shelf.Strings.Explode
import Derived.Shelf.Unicode.DecodeSlow
import Derived.Shelf.Unicode.DecodeAny
import Derived.Shelf.Strings.BuilderCap
import Derived.Test.YtcoepebmmgcplabGreatDoorProg
import Derived.Test.YtcoepebmmgcplabGreatDoorMFnLines0
section
namespace Go.Proofs.YtcoepebmmgcplabGreatDoor.G
open Go.RowKit Go.Proofs.YtcoepebmmgcplabGreatDoorW.PrintWords Go.Proofs.YtcoepebmmgcplabGreatDoorW.PrintLast Go.Proofs.YtcoepebmmgcplabGreatDoorW.PrintMore
attribute [local go_sem] max2_int min2_int max_two min_two max_three min_three max_four min_four
set_option linter.unusedVariables false
set_option linter.unusedSimpArgs false
mutual
def impl_hauledDown.l0:Nat→List (S46)→List Int→List (S46)→Int→Int→Option (List Int)
 | 0,_,_,_,_,_=>none
 | k + 1,x3,x4,x15,x16,x17=>if x17 < x16 then (if 0≤x17 then (if x17 < (x15.length:Int) then (if x4.length < 17592186044416 then (impl_hauledDown.l0 k x3 (x4 ++ [(rd_T46 x15 x17).f2]) x15 x16 (wrap64 (x17 + 1))) else (none)) else (none)) else (none)) else (impl_hauledDown.l1 k x3 x4 (wrap64 ((x3.length:Int) - 1)))
def impl_hauledDown.l1:Nat→List (S46)→List Int→Int→Option (List Int)
 | 0,_,_,_=>none
 | k + 1,x3,x4,x7=>if x7 > 0 then (if 0≤x7 then (if x7 < (x3.length:Int) then (if ((rd_T46 x3 x7).f0)≥0 then (if 0≤((rd_T46 x3 x7).f0) then (if ((rd_T46 x3 x7).f0) < (x4.length:Int) then (if x7 < (x4.length:Int) then (impl_hauledDown.l1 k x3 (x4.set (((rd_T46 x3 x7).f0):Int).toNat (mx (rd x4 ((rd_T46 x3 x7).f0)) (rd x4 x7))) (wrap64 (x7 - 1))) else (none)) else (none)) else (none)) else (impl_hauledDown.l1 k x3 x4 (wrap64 (x7 - 1)))) else (none)) else (none)) else (impl_hauledDown.l2 k x4 (([]:List Int)) x3 (x3.length:Int) 0)
def impl_hauledDown.l2:Nat→List Int→List Int→List (S46)→Int→Int→Option (List Int)
 | 0,_,_,_,_,_=>none
 | k + 1,x4,x9,x54,x55,x56=>if x56 < x55 then (if 0≤x56 then (if x56 < (x54.length:Int) then (if x56=0 then (if 0 < (x4.length:Int) then (if x9.length < 17592186044416 then (impl_hauledDown.l2 k x4 (x9 ++ [mx (rd x4 0) ((rd_T46 x54 x56).f3)]) x54 x55 (wrap64 (x56 + 1))) else (none)) else (none)) else (if ((rd_T46 x54 x56).f0) < 0 then (if x9.length < 17592186044416 then (impl_hauledDown.l2 k x4 (x9 ++ [(-1)]) x54 x55 (wrap64 (x56 + 1))) else (none)) else (if 0≤((rd_T46 x54 x56).f0) then (if ((rd_T46 x54 x56).f0) < (x9.length:Int) then (if x9.length < 17592186044416 then (impl_hauledDown.l2 k x4 (x9 ++ [wrap64 ((rd x9 ((rd_T46 x54 x56).f0)) + 1)]) x54 x55 (wrap64 (x56 + 1))) else (none)) else (none)) else (none)))) else (none)) else (none)) else (some x9)
end
def impl_hauledDown.f (k:Nat) (l0:List (S52)):Option (List Int):=(impl_times.f k l0).bind fun t101=>(impl_hauledDown.l0 k t101 (([]:List Int)) t101 (t101.length:Int) 0)
def impl_hauledDown.T13:Bool × List (List Nat × List Nat):=(true,[([],[]),([],[]),([],[]),([],[]),([2,3],[2,3]),([4],[4]),([],[]),([],[]),([6,7],[6,7]),([8],[8]),([5,9],[5,9]),([0,1,0,1,2,3,4,5,6,7,8,9,10],[0,1]),([11,10,0,1,2,3,4,5,6,7,8,9,10],[10,11])])
def impl_hauledDown.B13:List Nat:=[0,0,0,0,12,28,0,0,192,448,1020,2047,4095]
theorem impl_hauledDown.tab13:rtab .any (opsOf Tryz.f36 13)=impl_hauledDown.T13:=by kernel_rfl
theorem impl_hauledDown.bits13:waitsOk impl_hauledDown.T13.2 impl_hauledDown.B13=true:=by kernel_rfl
def impl_hauledDown.T20:Bool × List (List Nat × List Nat):=(true,[([],[]),([],[]),([1],[1]),([2],[2]),([],[]),([4],[4]),([3,5],[3,5]),([6],[6]),([0,7],[0,7]),([8,8,0,1,2,3,4,5,6,7,8],[0,8])])
def impl_hauledDown.B20:List Nat:=[0,0,2,6,0,16,62,126,255,511]
theorem impl_hauledDown.tab20:rtab .any (opsOf Tryz.f36 20)=impl_hauledDown.T20:=by kernel_rfl
theorem impl_hauledDown.bits20:waitsOk impl_hauledDown.T20.2 impl_hauledDown.B20=true:=by kernel_rfl
set_option maxHeartbeats 8000000 in
set_option maxRecDepth 100000 in
theorem impl_hauledDown.calls (k:Nat) (A0:Option Addr) (c0:Nat) (l0:List (S52)) (r:List Int) (w:World) (hr0:Kd.C k52 w A0 l0.length l0) (hc0:l0.length≤c0) (h:impl_hauledDown.f k l0=some r) :
  Calls Tryz.prog 36 #[.slice A0 l0.length c0] w fun e w'=>∃ v0_:Value,e=.returned (v0_)∧Kd.R (Kd.int .i64) 2 w' w.heap.size (fun _=>True) v0_ r∧Below w.heap.size w w':=by
 have hu46:=Tryz.underlying46;have HR0:=am hr0;have HC0:=am hc0;clear hr0 hc0;have HB:=am (Below.refl w.heap.size w);have H:((impl_times.f k l0).bind fun t101=>(impl_hauledDown.l0 k t101 (([]:List Int)) t101 (t101.length:Int) 0))=some r:=h;clear h;replace H:=Option.bind_eq_some_iff.mp H;obtain ⟨t101,A20,H⟩:=H;replace H:(impl_hauledDown.l0 k t101 (([]:List Int)) t101 (t101.length:Int) 0)=some r:=H;have A2:=am A20;clear A20;obtain ⟨y104,hy104⟩:∃ y_:List Int,y_=(([]:List Int)):=⟨_,rfl⟩
 replace H:(impl_hauledDown.l0 k t101 y104 t101 (t101.length:Int) 0)=some r:=by first|(rw [hy104];with_reducible exact H)|(have H2_:=(Option.bind_some _ _).symm.trans H;rw [hy104];with_reducible exact H2_)|(have H2_:=(Option.bind_some _ _).symm.trans H;with_reducible exact H2_)|with_reducible exact H|(rw [hy104];exact H)|exact H
 have Ny104:=am hy104;clear hy104;have H':=am H;clear H
 go_enter Tryz.func36,Tryz.ntmps36
 go_wp2_with (first|((with_reducible refine gate_callee (f:=27) rfl ?_);refine goesL_ (some 13) rfl rfl Tryz.func27 zq19 rfl #[.slice A0 l0.length c0] rfl zq1 ?_;(with_reducible refine (impl_times.calls k _ _ l0 t101 _ ?side1 ?side2 A2.out).mono ?_);(case side1=>exact zq4);(case side2=>exact HC0.out);rintro e w3 ⟨v102,rfl,ho0,hb⟩;refine ⟨_,rfl,?_⟩;have n0_:=am (Kd.R_lower ho0 (below_size zq0));have n1_:=am (below_step zq0 hb);clear HB;have HO103:=n0_;have HB:=n1_;clear n0_ n1_;(try clear hb);(try clear hb2);(try clear hk);(try clear hi);(try clear ho0))|((with_reducible refine gate_dst (N:=14) rfl ?_);refine Kd.R_lit (Kd.int .i64) _ 2 ?hg (N:=14) ?hd (xs:=([]:List Int)) (inner:=[]) (ok:=fun _=>True) (okp:=fun _=>True) ?hr ?hp (fun _ hk=>hk) trivial (Below.refl _ _) (Nat.le_refl _) (by simp) ?_;(case hd=>rfl);(case hg=>rfl);(case hr=>exact zq12);(case hp=>exact (Reps.none _ _));intro v105 w4 ho5 hb hg_ hnew_;clear hg_ hnew_;(first|rw [← Ny104.out] at ho5|(simp only [Int.reduceToNat] at ho5;rw [← Ny104.out] at ho5));have n0_:=am (Kd.R_below zq62 hb);have n1_:=am (Kd.R_lower ho5 (below_size zq0));have n2_:=am (below_step zq0 hb);clear HO103;clear HB;have HO103:=n0_;have HO106:=n1_;have HB:=n2_;clear n0_ n1_ n2_;clear hb ho5;obtain ⟨Ao6,co6,eo6⟩:=Kd.R_slice HO103.out;subst eo6))
 go_loopg [4,17] k (fun kq v4 v17 w'=>∃ (x4_1:List Int) (x17_1:Int),v17=.int .i64 x17_1∧Aside0 (impl_hauledDown.l0 kq t101 x4_1 t101 (t101.length:Int) x17_1=some r)∧Aside0 (kq≤k)∧Aside0 (Kd.R k46 46 w' w.heap.size (fun _=>True) (.slice Ao6 t101.length co6) t101)∧Aside0 (Kd.R (Kd.int .i64) 2 w' w.heap.size (fun _=>True) v4 x4_1)∧Aside0 (Kd.R k46 46 w' w.heap.size (fun _=>True) (.slice Ao6 t101.length co6) t101)∧Aside0 (Below w.heap.size w w'))
 case atStart=>exact ⟨(y104),(0),zq3,H',⟨Nat.le_refl _⟩,⟨by (with_reducible repeat (first|apply Kd.R_alloc|apply Kd.R_drewN|apply Kd.R_drew));exact HO103.out⟩,⟨by (with_reducible repeat (first|apply Kd.R_alloc|apply Kd.R_drewN|apply Kd.R_drew));exact HO106.out⟩,⟨by (with_reducible repeat (first|apply Kd.R_alloc|apply Kd.R_drewN|apply Kd.R_drew));exact HO103.out⟩,⟨by repeat (first|(with_reducible first|exact HB.out|apply below_alloc|apply pw_below_drewN|apply below_drew1)|exact HB.out)⟩⟩
 case round =>
  clear H';(try clear c2);(try clear p2);(try clear c3);obtain ⟨x4_1,x17_1,rfl,HA,HK1,HO_3,HO_4,HO_15,HB⟩:=hrel
  cases gk with
  | zero=>exact absurd HA.out (by simp [impl_hauledDown.l0])
  | succ k1 =>
   have H:=HA.out;clear HA;simp only [impl_hauledDown.l0] at H
   by_cases c7:x17_1 < (t101.length:Int)
   ·rw [if_pos c7] at H;have c7b0:=decide_eq_true c7;clear c7
    by_cases c8:0≤x17_1
    ·rw [if_pos c8] at H;have c8b0:=decide_eq_true c8;clear c8
     by_cases c9:x17_1 < (t101.length:Int)
     ·rw [if_pos c9] at H;have c9b0:=decide_eq_true c9;clear c9
      by_cases c10:x4_1.length < 17592186044416
      ·rw [if_pos c10] at H;have LMc10:=am c10;clear c10;obtain ⟨y109,hy109⟩:∃ y_:List Int,y_=(x4_1 ++ [(rd_T46 t101 x17_1).f2]):=⟨_,rfl⟩
       replace H:(impl_hauledDown.l0 k1 t101 y109 t101 (t101.length:Int) (wrap64 (x17_1 + 1)))=some r:=by first|(rw [hy109];with_reducible exact H)|(have H2_:=(Option.bind_some _ _).symm.trans H;rw [hy109];with_reducible exact H2_)|(have H2_:=(Option.bind_some _ _).symm.trans H;with_reducible exact H2_)|with_reducible exact H|(rw [hy109];exact H)|exact H
       have Ny109:=am hy109;clear hy109;have H':=am H;clear H;have p107:0≤(x17_1:Int):=of_decide_eq_true zq2;have q107:x17_1 < (t101.length:Int):=of_decide_eq_true zq2;obtain ⟨ad107,e107,hx107_0,hx107_1,hx107_2,hx107_3⟩:=at_T46 (Kd.R_reads' HO_15.out).2.2 x17_1 p107 q107;cases e107;replace p107:=eq_true p107;replace q107:=eq_true q107
       go_wp2_with (first|((with_reducible refine gate_dst (N:=6) rfl ?_);refine box_event ?hg (N:=6) ?hd (cs:=#[.int .i8 0,.int .i64 0,.int .i64 0,.int .i64 0]) (t:=46) ?hr ?_;(case hd=>rfl);(case hg=>rfl);(case hr=>exact zq12);intro gb108 hg w11 hbox hb;have n0_:=am (Kd.R_below (Kd.R_elderB zq8 gb108 (Nat.le_of_eq hg.symm)) hb);have n1_:=am (Kd.R_below zq7 hb);have n2_:=am (Kd.R_below (Kd.R_elderB (by (with_reducible repeat (first|apply Kd.R_alloc|apply Kd.R_drewN|apply Kd.R_drew));exact HO_15.out) gb108 (Nat.le_of_eq hg.symm)) hb);have n3_:=am (below_step zq0 hb);have n4_:=am (hbox);have n5_:=am ((by rw [hg];exact (below_size zq0):w.heap.size≤gb108));have n6_:=am ((by rw [hg];exact (below_size zq0):w.heap.size≤gb108));clear HO_3;clear HO_4;clear HO_15;clear HB;have HO_3:=n0_;have HO_4:=n1_;have HO_15:=n2_;have HB:=n3_;have BK108:=n4_;have GW108:=n5_;have GE108:=n6_;clear n0_ n1_ n2_ n3_ n4_ n5_ n6_;clear hb hbox hg;have hcz12_0:w11.cell? ⟨gb108,0,none⟩=some (.int .i8 0):=(blk_cell BK108.out 0).trans rfl;have hcz12_1:w11.cell? ⟨gb108,1,none⟩=some (.int .i64 0):=(blk_cell BK108.out 1).trans rfl;have hcz12_2:w11.cell? ⟨gb108,2,none⟩=some (.int .i64 0):=(blk_cell BK108.out 2).trans rfl;have hcz12_3:w11.cell? ⟨gb108,3,none⟩=some (.int .i64 0):=(blk_cell BK108.out 3).trans rfl;have hfz12_0:=blk_frozen BK108.out 0;have hfz12_1:=blk_frozen BK108.out 1;have hfz12_2:=blk_frozen BK108.out 2;have hfz12_3:=blk_frozen BK108.out 3)|((with_reducible refine gate_builtin (b:=.append) (xs:=#[.tmp 21,.tmp 24]) rfl ?_);at_builtin;refine Kd.R_append (Kd.int .i64) (w0:=w) w.heap.size rfl (.tmp 21) (.tmp 24) 34 2 (.int .i64 0) 8 rfl Tryz.underlying34 info2 rfl (by decide) (by omega) u4 x4_1 ((rd_T46 t101 x17_1).f2) [.int .i64 ((rd_T46 t101 x17_1).f2)] (fun _=>True) (fun _=>False) rfl zq12 ?aP (fun _ hk=>hk.elim) ?aF ?aO ?aB ?aS ?aL ?_;(case aP=>exact rfl);(case aB=>exact zq77);(case aF=>exact (fun _ _=>trivial));(case aO=>exact (by (with_reducible repeat (first|apply Kd.R_alloc|apply Kd.R_drewN|apply Kd.R_drew));exact Kd.R_mono (Kd.R_far (p:=⟨gb108,3,none⟩) (Kd.R_far (p:=⟨gb108,2,none⟩) (Kd.R_far (p:=⟨gb108,1,none⟩) (Kd.R_far (p:=⟨gb108,0,none⟩) (Kd.R_types HO_4.out BK108.out (by decide)) (fun _ hk=>hk.2) (.int .i8 ((rd_T46 t101 x17_1).f0))) (fun _ hk=>hk.2) (.int .i64 ((rd_T46 t101 x17_1).f1))) (fun _ hk=>hk.2) (.int .i64 ((rd_T46 t101 x17_1).f2))) (fun _ hk=>hk.2) (.int .i64 ((rd_T46 t101 x17_1).f3))) (fun _ hk=>trivial)));(case aS=>exact (below_size zq77));(case aL=>have:=LMc10.out;omega);intro v110 w13 ho hb hg hat;rw [← Ny109.out] at ho;have n0_:=am (Kd.R_over' (by (with_reducible repeat (first|apply Kd.R_alloc|apply Kd.R_drewN|apply Kd.R_drew));exact (Kd.R_mono (Kd.R_far (p:=⟨gb108,3,none⟩) (Kd.R_far (p:=⟨gb108,2,none⟩) (Kd.R_far (p:=⟨gb108,1,none⟩) (Kd.R_far (p:=⟨gb108,0,none⟩) (Kd.R_mono HO_3.out (fun k_ hk=>(⟨hk,hk.2⟩:_∧k_≠gb108))) (fun _ hk=>hk.2) (.int .i8 ((rd_T46 t101 x17_1).f0))) (fun _ hk=>hk.2) (.int .i64 ((rd_T46 t101 x17_1).f1))) (fun _ hk=>hk.2) (.int .i64 ((rd_T46 t101 x17_1).f2))) (fun _ hk=>hk.2) (.int .i64 ((rd_T46 t101 x17_1).f3))) (fun _ h_=>h_.1))) (Kd.R_typed zq42) (by decide) hg);have n1_:=am (Kd.R_over' (by (with_reducible repeat (first|apply Kd.R_alloc|apply Kd.R_drewN|apply Kd.R_drew));exact (Kd.R_mono (Kd.R_far (p:=⟨gb108,3,none⟩) (Kd.R_far (p:=⟨gb108,2,none⟩) (Kd.R_far (p:=⟨gb108,1,none⟩) (Kd.R_far (p:=⟨gb108,0,none⟩) (Kd.R_mono HO_15.out (fun k_ hk=>(⟨hk,hk.2⟩:_∧k_≠gb108))) (fun _ hk=>hk.2) (.int .i8 ((rd_T46 t101 x17_1).f0))) (fun _ hk=>hk.2) (.int .i64 ((rd_T46 t101 x17_1).f1))) (fun _ hk=>hk.2) (.int .i64 ((rd_T46 t101 x17_1).f2))) (fun _ hk=>hk.2) (.int .i64 ((rd_T46 t101 x17_1).f3))) (fun _ h_=>h_.1))) (Kd.R_typed zq42) (by decide) hg);have n2_:=am (blk_grown (g:=gb108) (o:=.cells #[.int .i8 ((rd_T46 t101 x17_1).f0),.int .i64 ((rd_T46 t101 x17_1).f1),.int .i64 ((rd_T46 t101 x17_1).f2),.int .i64 ((rd_T46 t101 x17_1).f3)] 46 (0,0)) (by (with_reducible repeat (first|refine blk_drewN ?_ _|refine blk_drew ?_|refine blk_alloc ?_ _));refine blk_put (cs:=#[.int .i8 ((rd_T46 t101 x17_1).f0),.int .i64 ((rd_T46 t101 x17_1).f1),.int .i64 ((rd_T46 t101 x17_1).f2),.int .i64 0]) ?_ 3 _ rfl;(with_reducible repeat (first|refine blk_drewN ?_ _|refine blk_drew ?_|refine blk_alloc ?_ _));refine blk_put (cs:=#[.int .i8 ((rd_T46 t101 x17_1).f0),.int .i64 ((rd_T46 t101 x17_1).f1),.int .i64 0,.int .i64 0]) ?_ 2 _ rfl;(with_reducible repeat (first|refine blk_drewN ?_ _|refine blk_drew ?_|refine blk_alloc ?_ _));refine blk_put (cs:=#[.int .i8 ((rd_T46 t101 x17_1).f0),.int .i64 0,.int .i64 0,.int .i64 0]) ?_ 1 _ rfl;(with_reducible repeat (first|refine blk_drewN ?_ _|refine blk_drew ?_|refine blk_alloc ?_ _));refine blk_put (cs:=#[.int .i8 0,.int .i64 0,.int .i64 0,.int .i64 0]) ?_ 0 _ rfl;(with_reducible repeat (first|refine blk_drewN ?_ _|refine blk_drew ?_|refine blk_alloc ?_ _));exact BK108.out) hg (Kd.R_ne HO_4.out BK108.out (by decide)));have n3_:=am (hb);have n4_:=am (ho);clear HO_3;clear HO_15;clear BK108;clear HB;clear HO_4;have HO_3:=n0_;have HO_15:=n1_;have BK108:=n2_;have HB:=n3_;have HO111:=n4_;clear n0_ n1_ n2_ n3_ n4_;clear ho hb hg hat))
       go_roundg k1
       case measure=>have:=HK1.out;omega
       case rel=>exact ⟨(y109),(wrap64 (x17_1 + 1)),zq3,H',⟨by have:=HK1.out;omega⟩,⟨by (with_reducible repeat (first|apply Kd.R_alloc|apply Kd.R_drewN|apply Kd.R_drew));exact Kd.R_mono HO_3.out (fun _ hk=>trivial)⟩,⟨by (with_reducible repeat (first|apply Kd.R_alloc|apply Kd.R_drewN|apply Kd.R_drew));exact HO111.out⟩,⟨by (with_reducible repeat (first|apply Kd.R_alloc|apply Kd.R_drewN|apply Kd.R_drew));exact Kd.R_mono HO_15.out (fun _ hk=>trivial)⟩,⟨by repeat (first|(with_reducible first|exact HB.out|apply below_alloc|apply pw_below_drewN|apply below_drew1|refine below_set ?_ GE108.out)|exact HB.out)⟩⟩
      ·rw [if_neg c10] at H;exact absurd H (by simp)
     ·rw [if_neg c9] at H;exact absurd H (by simp)
    ·rw [if_neg c8] at H;exact absurd H (by simp)
   ·rw [if_neg c7] at H;have c7b0:=decide_eq_false c7;clear c7;have H':=am H;clear H
    go_wp2
    go_loopg [7] k1 (fun kq v7 w'=>∃ (x4_2:List Int) (x7_2:Int),v7=.int .i64 x7_2∧Aside0 (impl_hauledDown.l1 kq t101 x4_2 x7_2=some r)∧Aside0 (kq≤k1)∧Aside0 (Kd.R k46 46 w' w.heap.size (fun _=>True) (.slice Ao6 t101.length co6) t101)∧Aside0 (Kd.R (Kd.int .i64) 2 w' w.heap.size (fun _=>True) u4 x4_2)∧Aside0 (Below w.heap.size w w'))
    case atStart=>exact ⟨(x4_1),(wrap64 ((t101.length:Int) - 1)),zq3,H',⟨Nat.le_refl _⟩,⟨by (with_reducible repeat (first|apply Kd.R_alloc|apply Kd.R_drewN|apply Kd.R_drew));exact HO_3.out⟩,⟨by (with_reducible repeat (first|apply Kd.R_alloc|apply Kd.R_drewN|apply Kd.R_drew));exact HO_4.out⟩,⟨by repeat (first|(with_reducible first|exact HB.out|apply below_alloc|apply pw_below_drewN|apply below_drew1)|exact HB.out)⟩⟩
    case round =>
     clear H';(try clear c1);(try clear p1);(try clear q1);(try clear hx1);(try clear c2);(try clear p2);(try clear c3);(try clear p6);(try clear c7);(try clear c7b0);(try clear c8);(try clear c8b0);(try clear c9);(try clear c9b0);(try clear c10);(try clear p10);(try clear q10);(try clear hx10);(try clear hcz12_0);(try clear hcz12_1);(try clear hcz12_2);(try clear hcz12_3);(try clear hfz12_0);(try clear hfz12_1);(try clear hfz12_2);(try clear hfz12_3);(try clear hx107_0);(try clear hx107_1);(try clear hx107_2);(try clear hx107_3);(try clear p107);(try clear p2);(try clear q107);obtain ⟨x4_2,x7_2,rfl,HA,HK2,HO_3,HO_4,HB⟩:=hrel
     cases gk with
     | zero=>exact absurd HA.out (by simp [impl_hauledDown.l1])
     | succ k2 =>
      have H:=HA.out;clear HA;simp only [impl_hauledDown.l1] at H
      by_cases c14:x7_2 > 0
      ·rw [if_pos c14] at H;have c14b0:decide (0 < x7_2)=true:=decide_eq_true c14;clear c14
       by_cases c15:0≤x7_2
       ·rw [if_pos c15] at H;have c15b0:=decide_eq_true c15;clear c15
        by_cases c16:x7_2 < (t101.length:Int)
        ·rw [if_pos c16] at H;have c16b0:=decide_eq_true c16;clear c16
         by_cases c17:((rd_T46 t101 x7_2).f0)≥0
         ·rw [if_pos c17] at H;have c17b0:decide (0≤((rd_T46 t101 x7_2).f0))=true:=decide_eq_true c17;clear c17
          by_cases c18:0≤((rd_T46 t101 x7_2).f0)
          ·rw [if_pos c18] at H;have c18b0:=decide_eq_true c18;clear c18
           by_cases c19:((rd_T46 t101 x7_2).f0) < (x4_2.length:Int)
           ·rw [if_pos c19] at H;have c19b0:=decide_eq_true c19;clear c19
            by_cases c20:x7_2 < (x4_2.length:Int)
            ·rw [if_pos c20] at H;have c20b0:=decide_eq_true c20;clear c20;obtain ⟨ji21,hji21⟩:∃ j_:Int,(mx (rd x4_2 ((rd_T46 t101 x7_2).f0)) (rd x4_2 x7_2))=j_:=⟨_,rfl⟩
             replace H:(impl_hauledDown.l1 k2 t101 (x4_2.set (((rd_T46 t101 x7_2).f0):Int).toNat (ji21)) (wrap64 (x7_2 - 1)))=some r:=by first|(rw [hji21] at H;exact H)|(simp only [hji21] at H ⊢;exact H)
             have hji21_:(if (rd x4_2 ((rd_T46 t101 x7_2).f0)) < (rd x4_2 x7_2) then (rd x4_2 x7_2) else (rd x4_2 ((rd_T46 t101 x7_2).f0)))=ji21:=hji21;obtain ⟨y115,hy115⟩:∃ y_:List Int,y_=(x4_2.set (((rd_T46 t101 x7_2).f0):Int).toNat (ji21)):=⟨_,rfl⟩
             replace H:(impl_hauledDown.l1 k2 t101 y115 (wrap64 (x7_2 - 1)))=some r:=by first|(rw [hy115];with_reducible exact H)|(have H2_:=(Option.bind_some _ _).symm.trans H;rw [hy115];with_reducible exact H2_)|(have H2_:=(Option.bind_some _ _).symm.trans H;with_reducible exact H2_)|with_reducible exact H|(rw [hy115];exact H)|exact H
             have Ny115:=am hy115;clear hy115;have H':=am H;clear H;have p112:0≤(x7_2:Int):=of_decide_eq_true zq2;have q112:x7_2 < (t101.length:Int):=of_decide_eq_true zq2;obtain ⟨ad112,e112,hx112_0,hx112_1,hx112_2,hx112_3⟩:=at_T46 (Kd.R_reads' HO_3.out).2.2 x7_2 p112 q112;cases e112;replace p112:=eq_true p112;replace q112:=eq_true q112;(try go_wp2);have n0_:=am (Kd.R_drew HO_3.out);have n1_:=am (Kd.R_drew HO_4.out);have n2_:=am (below_drew1 HB.out);clear HO_3;clear HO_4;clear HB;have HO_3:=n0_;have HO_4:=n1_;have HB:=n2_;clear n0_ n1_ n2_;obtain ⟨Ao24,co24,eo24⟩:=Kd.R_slice HO_4.out;(first|subst eo24|(injection eo24 with f1_ f2_ f3_;have f4_:=f1_.symm;have f5_:=f3_.symm;clear f1_ f2_ f3_;subst f4_;subst f5_));have p113:0≤(((rd_T46 t101 x7_2).f0):Int):=of_decide_eq_true zq2;have q113:((rd_T46 t101 x7_2).f0) < (x4_2.length:Int):=of_decide_eq_true zq2;obtain ⟨ad113,e113,hx113_0⟩:=Kd.at_int (Kd.R_reads' HO_4.out).2.2 ((rd_T46 t101 x7_2).f0) p113 q113;cases e113;replace p113:=eq_true p113;replace q113:=eq_true q113;have p114:0≤(x7_2:Int):=of_decide_eq_true zq2;have q114:x7_2 < (x4_2.length:Int):=of_decide_eq_true zq2;obtain ⟨ad114,e114,hx114_0⟩:=Kd.at_int (Kd.R_reads' HO_4.out).2.2 x7_2 p114 q114;obtain rfl:ad113=ad114:=(by injection e114);replace p114:=eq_true p114;replace q114:=eq_true q114;have p22:0≤(((rd_T46 t101 x7_2).f0):Int):=of_decide_eq_true zq2;have q22:(((rd_T46 t101 x7_2).f0):Int) < ((x4_2.length:Int):Int):=of_decide_eq_true zq2;obtain ⟨go22,co22,eo22,gb22,gl22,cl22,HG22⟩:=Kd.R_form HO_4.out (by omega);(first|cases eo22|(injection eo22 with ea_ en_ ec_;(first|subst ea_|(injection ea_ with ea_;subst ea_));subst ec_;clear en_));have GB22:=am gb22;have GG22:=am HG22;clear gb22 gl22 HG22;(first|simp only [add_plain] at hx113_0|skip);(first|simp only [add_plain] at hx114_0|skip);obtain ⟨hx22_0,hf22_0⟩:=Kd.R_celln 0 HO_4.out (((rd_T46 t101 x7_2).f0):Int) p22 q22;replace p22:=eq_true p22;replace q22:=eq_true q22;have HP25:=Kd.R_putn HO_4.out (((rd_T46 t101 x7_2).f0):Int) ji21;rw [← Ny115.out] at HP25;have HQ25:=am HP25;clear HP25;refine start_ (n:=13) (S:=fun w'=>w'.cell? ⟨go22,(((rd_T46 t101 x7_2).f0)).toNat,none⟩=some (.int .i64 (rd x4_2 ((rd_T46 t101 x7_2).f0)))∧w'.cell? ⟨go22,(x7_2).toNat,none⟩=some (.int .i64 (rd x4_2 x7_2))) (ds:=[12]) #[false,false,false,false,false,false,false,false,false,false,false,false,false] zq19 rfl rfl ⟨hx113_0,hx114_0⟩ (fun hHeld=>?_);refine with_tabW impl_hauledDown.tab13 impl_hauledDown.bits13 (fun HT_ HW_=>?_);generalize wr.drew=w23 at HO_3 HO_4 HB GG22 HQ25 hf22_0 hx113_0 hx114_0 hx22_0 hHeld ⊢;refine pw_ 0 41 ?_;refine pw_ 1 42 ?_;refine pw_ 2 43 ?_;refine pw_ 3 44 ?_;refine pw_ 4 45 ?_;refine pw_ 6 47 ?_;refine pw_ 7 48 ?_;refine pw_ 8 49 ?_;refine tw2_ 5 46 ?_;refine tw2_ 9 50 ?_;refine pw_ 10 51 ?_;refine pw_ 11 52 ?_;refine last_ (i:=12) (N:=none) #[true,true,true,true,true,true,true,true,true,true,true,true,true] rfl rfl (one_of HT_.out zq19) (by decide) (fun K hK=>?_);refine skip_ (w1:=?_) (by rfl) rfl ?_ ?_;rotate_left
             ·go_simp;rfl
             refine hK.out _ _ ?_;clear hK K;refine done_ (done_of HT_.out zq19) ?_;(try go_wp2)
             go_roundg k2
             case measure=>have:=HK1.out;have:=HK2.out;omega
             case rel=>exact ⟨(y115),(wrap64 (x7_2 - 1)),zq3,H',⟨by have:=HK1.out;have:=HK2.out;omega⟩,⟨by (with_reducible repeat (first|apply Kd.R_alloc|apply Kd.R_drewN|apply Kd.R_drew));exact Kd.R_mono (Kd.R_far (p:=⟨go22,(((rd_T46 t101 x7_2).f0):Int).toNat,none⟩) (Kd.R_types HO_3.out (by first|exact GG22.out|exact Exists.choose_spec (Kd.R_typed HO_4.out _ rfl)) (by decide)) (fun _ hk=>hk.2) (.int .i64 ji21)) (fun _ hk=>trivial)⟩,⟨by (with_reducible repeat (first|apply Kd.R_alloc|apply Kd.R_drewN|apply Kd.R_drew));exact HQ25.out⟩,⟨by repeat (first|(with_reducible first|exact HB.out|apply below_alloc|apply pw_below_drewN|apply below_drew1|refine below_set ?_ GB22.out)|exact HB.out)⟩⟩
            ·rw [if_neg c20] at H;exact absurd H (by simp)
           ·rw [if_neg c19] at H;exact absurd H (by simp)
          ·rw [if_neg c18] at H;exact absurd H (by simp)
         ·rw [if_neg c17] at H;have c17b0:decide (0≤((rd_T46 t101 x7_2).f0))=false:=decide_eq_false c17;clear c17;have H':=am H;clear H;have p112:0≤(x7_2:Int):=of_decide_eq_true zq2;have q112:x7_2 < (t101.length:Int):=of_decide_eq_true zq2;obtain ⟨ad112,e112,hx112_0,hx112_1,hx112_2,hx112_3⟩:=at_T46 (Kd.R_reads' HO_3.out).2.2 x7_2 p112 q112;cases e112;replace p112:=eq_true p112;replace q112:=eq_true q112
          go_wp2
          go_roundg k2
          case measure=>have:=HK1.out;have:=HK2.out;omega
          case rel=>exact ⟨(x4_2),(wrap64 (x7_2 - 1)),zq3,H',⟨by have:=HK1.out;have:=HK2.out;omega⟩,⟨by (with_reducible repeat (first|apply Kd.R_alloc|apply Kd.R_drewN|apply Kd.R_drew));exact HO_3.out⟩,⟨by (with_reducible repeat (first|apply Kd.R_alloc|apply Kd.R_drewN|apply Kd.R_drew));exact HO_4.out⟩,⟨by repeat (first|(with_reducible first|exact HB.out|apply below_alloc|apply pw_below_drewN|apply below_drew1)|exact HB.out)⟩⟩
        ·rw [if_neg c16] at H;exact absurd H (by simp)
       ·rw [if_neg c15] at H;exact absurd H (by simp)
      ·rw [if_neg c14] at H;have c14b0:decide (0 < x7_2)=false:=decide_eq_false c14;clear c14;obtain ⟨y116,hy116⟩:∃ y_:List Int,y_=(([]:List Int)):=⟨_,rfl⟩
       replace H:(impl_hauledDown.l2 k2 x4_2 y116 t101 (t101.length:Int) 0)=some r:=by first|(rw [hy116];with_reducible exact H)|(have H2_:=(Option.bind_some _ _).symm.trans H;rw [hy116];with_reducible exact H2_)|(have H2_:=(Option.bind_some _ _).symm.trans H;with_reducible exact H2_)|with_reducible exact H|(rw [hy116];exact H)|exact H
       have Ny116:=am hy116;clear hy116;have H':=am H;clear H
       go_wp2_with (first|((with_reducible refine gate_dst (N:=53) rfl ?_);refine Kd.R_lit (Kd.int .i64) _ 2 ?hg (N:=53) ?hd (xs:=([]:List Int)) (inner:=[]) (ok:=fun _=>True) (okp:=fun _=>True) ?hr ?hp (fun _ hk=>hk) trivial (Below.refl _ _) (Nat.le_refl _) (by simp) ?_;(case hd=>rfl);(case hg=>rfl);(case hr=>exact zq12);(case hp=>exact (Reps.none _ _));intro v117 w26 ho27 hb hg_ hnew_;clear hg_ hnew_;(first|rw [← Ny116.out] at ho27|(simp only [Int.reduceToNat] at ho27;rw [← Ny116.out] at ho27));have n0_:=am (Kd.R_below zq8 hb);have n1_:=am (Kd.R_elder' zq7 (Kd.R_base ho27) hb);have n2_:=am (Kd.R_lower (Kd.R_new' ho27 (Kd.R_lt zq7)) (below_size zq0));have n3_:=am (below_step zq0 hb);clear HO_3;clear HO_4;clear HB;have HO_3:=n0_;have HO_4:=n1_;have HO118:=n2_;have HB:=n3_;clear n0_ n1_ n2_ n3_;clear hb ho27))
       go_loopg [9,56] k2 (fun kq v9 v56 w'=>∃ (x9_3:List Int) (x56_3:Int),v56=.int .i64 x56_3∧Aside0 (impl_hauledDown.l2 kq x4_2 x9_3 t101 (t101.length:Int) x56_3=some r)∧Aside0 (kq≤k2)∧Aside0 (Kd.R (Kd.int .i64) 2 w' w.heap.size (fun k_=>some k_≠(v9:Value).ownBlock) u4 x4_2)∧Aside0 (Kd.R (Kd.int .i64) 2 w' w.heap.size (fun k_=>some k_≠(u4:Value).ownBlock) v9 x9_3)∧Aside0 (Kd.R k46 46 w' w.heap.size (fun _=>True) (.slice Ao6 t101.length co6) t101)∧Aside0 (Below w.heap.size w w'))
       case atStart=>exact ⟨(y116),(0),zq3,H',⟨Nat.le_refl _⟩,⟨by (with_reducible repeat (first|apply Kd.R_alloc|apply Kd.R_drewN|apply Kd.R_drew));exact Kd.R_mono HO_4.out (fun _ hk=>hk.2)⟩,⟨by (with_reducible repeat (first|apply Kd.R_alloc|apply Kd.R_drewN|apply Kd.R_drew));exact Kd.R_mono HO118.out (fun _ hk=>hk.2)⟩,⟨by (with_reducible repeat (first|apply Kd.R_alloc|apply Kd.R_drewN|apply Kd.R_drew));exact HO_3.out⟩,⟨by repeat (first|(with_reducible first|exact HB.out|apply below_alloc|apply pw_below_drewN|apply below_drew1)|exact HB.out)⟩⟩
       case round =>
        clear H';(try clear c1);(try clear p1);(try clear q1);(try clear hx1);(try clear c2);(try clear p2);(try clear q2);(try clear hx2);(try clear hf2);(try clear c3);(try clear p6);(try clear c7);(try clear c7b0);(try clear c8);(try clear c8b0);(try clear c9);(try clear c9b0);(try clear c10);(try clear p10);(try clear q10);(try clear hx10);(try clear p11);(try clear q11);(try clear hx11);(try clear c14);(try clear c14b0);(try clear c15);(try clear c15b0);(try clear c16);(try clear c16b0);(try clear c17);(try clear c17b0);(try clear c18);(try clear c18b0);(try clear c19);(try clear c19b0);(try clear c20);(try clear c20b0);(try clear p22);(try clear q22);(try clear hx22);(try clear hf22);(try clear c27);(try clear hcz12_0);(try clear hcz12_1);(try clear hcz12_2);(try clear hcz12_3);(try clear hfz12_0);(try clear hfz12_1);(try clear hfz12_2);(try clear hfz12_3);(try clear hx107_0);(try clear hx107_1);(try clear hx107_2);(try clear hx107_3);(try clear hx112_0);(try clear hx112_1);(try clear hx112_2);(try clear hx112_3);(try clear hx113_0);(try clear hx114_0);(try clear hx22_0);(try clear p1);(try clear p10);(try clear p107);(try clear p112);(try clear p113);(try clear p114);(try clear p2);(try clear p22);(try clear p6);(try clear q1);(try clear q10);(try clear q107);(try clear q112);(try clear q113);(try clear q114);(try clear q22);obtain ⟨x9_3,x56_3,rfl,HA,HK3,HO_4,HO_9,HO_54,HB⟩:=hrel
        cases gk with
        | zero=>exact absurd HA.out (by simp [impl_hauledDown.l2])
        | succ k3 =>
         have H:=HA.out;clear HA;simp only [impl_hauledDown.l2] at H
         by_cases c28:x56_3 < (t101.length:Int)
         ·rw [if_pos c28] at H;have c28b0:=decide_eq_true c28;clear c28
          by_cases c29:0≤x56_3
          ·rw [if_pos c29] at H;have c29b0:=decide_eq_true c29;clear c29
           by_cases c30:x56_3 < (t101.length:Int)
           ·rw [if_pos c30] at H;have c30b0:=decide_eq_true c30;clear c30
            by_cases c31:x56_3=0
            ·rw [if_pos c31] at H;have c31b0:=beq_iff_eq.mpr c31;have c31b1:=bne_eq_false_iff_eq.mpr c31;clear c31
             by_cases c32:0 < (x4_2.length:Int)
             ·rw [if_pos c32] at H;have c32b0:=decide_eq_true c32;have c32b1:decide (0 < x4_2.length)=true:=decide_eq_true (by omega);clear c32;obtain ⟨ji33,hji33⟩:∃ j_:Int,(mx (rd x4_2 0) ((rd_T46 t101 x56_3).f3))=j_:=⟨_,rfl⟩
              replace H:(if x9_3.length < 17592186044416 then (impl_hauledDown.l2 k3 x4_2 (x9_3 ++ [ji33]) t101 (t101.length:Int) (wrap64 (x56_3 + 1))) else (none))=some r:=by first|(rw [hji33] at H;exact H)|(simp only [hji33] at H ⊢;exact H)
              have hji33_:(if (rd x4_2 0) < ((rd_T46 t101 x56_3).f3) then ((rd_T46 t101 x56_3).f3) else (rd x4_2 0))=ji33:=hji33
              by_cases c34:x9_3.length < 17592186044416
              ·rw [if_pos c34] at H;have LMc34:=am c34;clear c34;obtain ⟨y122,hy122⟩:∃ y_:List Int,y_=(x9_3 ++ [ji33]):=⟨_,rfl⟩
               replace H:(impl_hauledDown.l2 k3 x4_2 y122 t101 (t101.length:Int) (wrap64 (x56_3 + 1)))=some r:=by first|(rw [hy122];with_reducible exact H)|(have H2_:=(Option.bind_some _ _).symm.trans H;rw [hy122];with_reducible exact H2_)|(have H2_:=(Option.bind_some _ _).symm.trans H;with_reducible exact H2_)|with_reducible exact H|(rw [hy122];exact H)|exact H
               have Ny122:=am hy122;clear hy122;have H':=am H;clear H;have p119:0≤(x56_3:Int):=of_decide_eq_true zq2;have q119:x56_3 < (t101.length:Int):=of_decide_eq_true zq2;obtain ⟨ad119,e119,hx119_0,hx119_1,hx119_2,hx119_3⟩:=at_T46 (Kd.R_reads' HO_54.out).2.2 x56_3 p119 q119;cases e119;replace p119:=eq_true p119;replace q119:=eq_true q119
               try go_wp2_with (first|((with_reducible refine gate_dst (N:=11) rfl ?_);refine box_event ?hg (N:=11) ?hd (cs:=#[.int .i8 0,.int .i64 0,.int .i64 0,.int .i64 0]) (t:=46) ?hr ?_;(case hd=>rfl);(case hg=>rfl);(case hr=>exact zq12);intro gb120 hg w35 hbox hb;have n0_:=am (Kd.R_below zq7 hb);have n1_:=am (Kd.R_below zq33 hb);have n2_:=am (Kd.R_below (Kd.R_elderB zq58 gb120 (Nat.le_of_eq hg.symm)) hb);have n3_:=am (below_step zq0 hb);have n4_:=am (hbox);have n5_:=am ((by rw [hg];exact (below_size zq0):w.heap.size≤gb120));have n6_:=am ((by rw [hg];exact (below_size zq0):w.heap.size≤gb120));clear HO_4;clear HO_9;clear HO_54;clear HB;have HO_4:=n0_;have HO_9:=n1_;have HO_54:=n2_;have HB:=n3_;have BK120:=n4_;have GW120:=n5_;have GE120:=n6_;clear n0_ n1_ n2_ n3_ n4_ n5_ n6_;clear hb hbox hg;have hcz36_0:w35.cell? ⟨gb120,0,none⟩=some (.int .i8 0):=(blk_cell BK120.out 0).trans rfl;have hcz36_1:w35.cell? ⟨gb120,1,none⟩=some (.int .i64 0):=(blk_cell BK120.out 1).trans rfl;have hcz36_2:w35.cell? ⟨gb120,2,none⟩=some (.int .i64 0):=(blk_cell BK120.out 2).trans rfl;have hcz36_3:w35.cell? ⟨gb120,3,none⟩=some (.int .i64 0):=(blk_cell BK120.out 3).trans rfl;have hfz36_0:=blk_frozen BK120.out 0;have hfz36_1:=blk_frozen BK120.out 1;have hfz36_2:=blk_frozen BK120.out 2;have hfz36_3:=blk_frozen BK120.out 3))
               have n0_:Aside0 (Kd.R (Kd.int .i64) 2 ((((w35.setCell ⟨gb120,0,none⟩ (.int .i8 ((rd_T46 t101 x56_3).f0))).setCell ⟨gb120,1,none⟩ (.int .i64 ((rd_T46 t101 x56_3).f1))).setCell ⟨gb120,2,none⟩ (.int .i64 ((rd_T46 t101 x56_3).f2))).setCell ⟨gb120,3,none⟩ (.int .i64 ((rd_T46 t101 x56_3).f3))) w.heap.size (fun k_=>some k_≠(u9:Value).ownBlock) u4 x4_2):=⟨by (with_reducible repeat (first|apply Kd.R_alloc|apply Kd.R_drewN|apply Kd.R_drew));exact Kd.R_mono (Kd.R_far (p:=⟨gb120,3,none⟩) (Kd.R_far (p:=⟨gb120,2,none⟩) (Kd.R_far (p:=⟨gb120,1,none⟩) (Kd.R_far (p:=⟨gb120,0,none⟩) (Kd.R_types HO_4.out BK120.out (by decide)) (fun _ hk=>hk.2) (.int .i8 ((rd_T46 t101 x56_3).f0))) (fun _ hk=>hk.2) (.int .i64 ((rd_T46 t101 x56_3).f1))) (fun _ hk=>hk.2) (.int .i64 ((rd_T46 t101 x56_3).f2))) (fun _ hk=>hk.2) (.int .i64 ((rd_T46 t101 x56_3).f3))) (fun _ hk=>hk.1)⟩;have n1_:Aside0 (Kd.R (Kd.int .i64) 2 ((((w35.setCell ⟨gb120,0,none⟩ (.int .i8 ((rd_T46 t101 x56_3).f0))).setCell ⟨gb120,1,none⟩ (.int .i64 ((rd_T46 t101 x56_3).f1))).setCell ⟨gb120,2,none⟩ (.int .i64 ((rd_T46 t101 x56_3).f2))).setCell ⟨gb120,3,none⟩ (.int .i64 ((rd_T46 t101 x56_3).f3))) w.heap.size (fun k_=>some k_≠(u4:Value).ownBlock) u9 x9_3):=⟨by (with_reducible repeat (first|apply Kd.R_alloc|apply Kd.R_drewN|apply Kd.R_drew));exact Kd.R_mono (Kd.R_far (p:=⟨gb120,3,none⟩) (Kd.R_far (p:=⟨gb120,2,none⟩) (Kd.R_far (p:=⟨gb120,1,none⟩) (Kd.R_far (p:=⟨gb120,0,none⟩) (Kd.R_types HO_9.out BK120.out (by decide)) (fun _ hk=>hk.2) (.int .i8 ((rd_T46 t101 x56_3).f0))) (fun _ hk=>hk.2) (.int .i64 ((rd_T46 t101 x56_3).f1))) (fun _ hk=>hk.2) (.int .i64 ((rd_T46 t101 x56_3).f2))) (fun _ hk=>hk.2) (.int .i64 ((rd_T46 t101 x56_3).f3))) (fun _ hk=>hk.1)⟩;have n2_:Aside0 (Kd.R k46 46 ((((w35.setCell ⟨gb120,0,none⟩ (.int .i8 ((rd_T46 t101 x56_3).f0))).setCell ⟨gb120,1,none⟩ (.int .i64 ((rd_T46 t101 x56_3).f1))).setCell ⟨gb120,2,none⟩ (.int .i64 ((rd_T46 t101 x56_3).f2))).setCell ⟨gb120,3,none⟩ (.int .i64 ((rd_T46 t101 x56_3).f3))) w.heap.size (fun k_=>k_≠gb120) (.slice (some ad119) t101.length co6) t101):=⟨by (with_reducible repeat (first|apply Kd.R_alloc|apply Kd.R_drewN|apply Kd.R_drew));exact Kd.R_mono (Kd.R_far (p:=⟨gb120,3,none⟩) (Kd.R_far (p:=⟨gb120,2,none⟩) (Kd.R_far (p:=⟨gb120,1,none⟩) (Kd.R_far (p:=⟨gb120,0,none⟩) (Kd.R_mono HO_54.out (fun k_ hk=>(⟨hk,hk.2⟩:_∧k_≠gb120))) (fun _ hk=>hk.2) (.int .i8 ((rd_T46 t101 x56_3).f0))) (fun _ hk=>hk.2) (.int .i64 ((rd_T46 t101 x56_3).f1))) (fun _ hk=>hk.2) (.int .i64 ((rd_T46 t101 x56_3).f2))) (fun _ hk=>hk.2) (.int .i64 ((rd_T46 t101 x56_3).f3))) (fun _ hk=>hk.1.2)⟩;have n3_:Aside0 (((((w35.setCell ⟨gb120,0,none⟩ (.int .i8 ((rd_T46 t101 x56_3).f0))).setCell ⟨gb120,1,none⟩ (.int .i64 ((rd_T46 t101 x56_3).f1))).setCell ⟨gb120,2,none⟩ (.int .i64 ((rd_T46 t101 x56_3).f2))).setCell ⟨gb120,3,none⟩ (.int .i64 ((rd_T46 t101 x56_3).f3))).heap[gb120]?=some (.cells #[.int .i8 ((rd_T46 t101 x56_3).f0),.int .i64 ((rd_T46 t101 x56_3).f1),.int .i64 ((rd_T46 t101 x56_3).f2),.int .i64 ((rd_T46 t101 x56_3).f3)] 46 (0,0))):=⟨by (with_reducible repeat (first|refine blk_drewN ?_ _|refine blk_drew ?_|refine blk_alloc ?_ _));refine blk_put (cs:=#[.int .i8 ((rd_T46 t101 x56_3).f0),.int .i64 ((rd_T46 t101 x56_3).f1),.int .i64 ((rd_T46 t101 x56_3).f2),.int .i64 0]) ?_ 3 _ rfl;(with_reducible repeat (first|refine blk_drewN ?_ _|refine blk_drew ?_|refine blk_alloc ?_ _));refine blk_put (cs:=#[.int .i8 ((rd_T46 t101 x56_3).f0),.int .i64 ((rd_T46 t101 x56_3).f1),.int .i64 0,.int .i64 0]) ?_ 2 _ rfl;(with_reducible repeat (first|refine blk_drewN ?_ _|refine blk_drew ?_|refine blk_alloc ?_ _));refine blk_put (cs:=#[.int .i8 ((rd_T46 t101 x56_3).f0),.int .i64 0,.int .i64 0,.int .i64 0]) ?_ 1 _ rfl;(with_reducible repeat (first|refine blk_drewN ?_ _|refine blk_drew ?_|refine blk_alloc ?_ _));refine blk_put (cs:=#[.int .i8 0,.int .i64 0,.int .i64 0,.int .i64 0]) ?_ 0 _ rfl;(with_reducible repeat (first|refine blk_drewN ?_ _|refine blk_drew ?_|refine blk_alloc ?_ _));exact BK120.out⟩;have n4_:Aside0 (Below w.heap.size w ((((w35.setCell ⟨gb120,0,none⟩ (.int .i8 ((rd_T46 t101 x56_3).f0))).setCell ⟨gb120,1,none⟩ (.int .i64 ((rd_T46 t101 x56_3).f1))).setCell ⟨gb120,2,none⟩ (.int .i64 ((rd_T46 t101 x56_3).f2))).setCell ⟨gb120,3,none⟩ (.int .i64 ((rd_T46 t101 x56_3).f3)))):=⟨by repeat (first|(with_reducible first|exact HB.out|apply below_alloc|apply pw_below_drewN|apply below_drew1|refine below_set ?_ GE120.out)|exact HB.out)⟩;(try clear HO_4);(try clear HO_9);(try clear HO_54);(try clear BK120);(try clear HB);generalize ((((w35.setCell ⟨gb120,0,none⟩ (.int .i8 ((rd_T46 t101 x56_3).f0))).setCell ⟨gb120,1,none⟩ (.int .i64 ((rd_T46 t101 x56_3).f1))).setCell ⟨gb120,2,none⟩ (.int .i64 ((rd_T46 t101 x56_3).f2))).setCell ⟨gb120,3,none⟩ (.int .i64 ((rd_T46 t101 x56_3).f3)))=w37 at n0_ n1_ n2_ n3_ n4_ ⊢;have HO_4:=n0_;have HO_9:=n1_;have HO_54:=n2_;have BK120:=n3_;have HB:=n4_;clear n0_ n1_ n2_ n3_ n4_;have n0_:=am (Kd.R_drew HO_4.out);have n1_:=am (Kd.R_drew HO_9.out);have n2_:=am (Kd.R_drew HO_54.out);have n3_:=am (blk_drew BK120.out);have n4_:=am (below_drew1 HB.out);clear HO_4;clear HO_9;clear HO_54;clear BK120;clear HB;have HO_4:=n0_;have HO_9:=n1_;have HO_54:=n2_;have BK120:=n3_;have HB:=n4_;clear n0_ n1_ n2_ n3_ n4_;obtain ⟨Ao39,co39,eo39⟩:=Kd.R_slice HO_4.out;(first|subst eo39|(injection eo39 with f1_ f2_ f3_;have f4_:=f1_.symm;have f5_:=f3_.symm;clear f1_ f2_ f3_;subst f4_;subst f5_));have p121:0≤(0:Int):=(by omega);have q121:0 < (x4_2.length:Int):=of_decide_eq_true zq2;obtain ⟨ad121,e121,hx121_0⟩:=Kd.at_int (Kd.R_reads' HO_4.out).2.2 0 p121 q121;cases e121;have qi121:(0 < x4_2.length)=True:=eq_true (by omega);(try rw [show ((0:Int)).toNat=0 from rfl] at hx121_0);(try rw [Addr.add_zero'] at hx121_0);replace p121:=eq_true p121;replace q121:=eq_true q121;refine start_ (n:=10) (S:=fun w'=>w'.cell? ⟨gb120,0,none⟩=some (.int .i8 ((rd_T46 t101 x56_3).f0))∧w'.cell? ⟨gb120,1,none⟩=some (.int .i64 ((rd_T46 t101 x56_3).f1))∧w'.cell? ⟨gb120,2,none⟩=some (.int .i64 ((rd_T46 t101 x56_3).f2))∧w'.cell? ⟨gb120,3,none⟩=some (.int .i64 ((rd_T46 t101 x56_3).f3))∧w'.cell? ad121=some (.int .i64 (rd x4_2 0))) (ds:=[7,8]) #[false,false,false,false,false,false,false,false,false,false] zq19 rfl rfl ⟨(blk_cell BK120.out 0).trans rfl,(blk_cell BK120.out 1).trans rfl,(blk_cell BK120.out 2).trans rfl,(blk_cell BK120.out 3).trans rfl,hx121_0⟩ (fun hHeld=>?_);refine with_tabW impl_hauledDown.tab20 impl_hauledDown.bits20 (fun HT_ HW_=>?_);generalize w37.drew=w38 at HO_4 HO_9 HO_54 BK120 HB hx121_0 hHeld ⊢;refine pw_ 0 73 ?_;refine pw_ 1 74 ?_;refine pw_ 2 75 ?_;refine pw_ 4 77 ?_;refine tw5_ 3 76 ?_;refine tw5_ 5 78 ?_;refine pw_ 6 79 ?_;refine last_ (i:=7) (N:=some 80) #[true,true,true,true,true,true,true,true,false,false] rfl rfl (one_of HT_.out zq19) (by decide) (fun K hK=>?_);refine value_ (w1:=?_) (v:=?_) (by rfl) rfl ?_ ?_;rotate_left 2
               ·go_simp
                constructor
                ·rfl
                ·rfl
               refine hK.out _ _ ?_;clear hK K;refine norm_ (a':=?_) ?_ ?_;rotate_left
               ·show Act.put _ (some 80) _=_
                simp only [Act.put,List.setIfInBounds_toArray,List.set_cons_zero,List.set_cons_succ,i64_w,i32_w];rfl
               refine last_ (i:=8) (N:=some 81) #[true,true,true,true,true,true,true,true,true,false] rfl rfl (one_of HT_.out zq19) (by decide) (fun K hK=>?_);refine Kd.R_append_step (Kd.int .i64) (w0:=w) w.heap.size (by rfl) (.tmp 73) (.tmp 80) 34 2 (.int .i64 0) 8 rfl Tryz.underlying34 info2 rfl (by decide) (by omega) u9 x9_3 ji33 [.int .i64 ji33] (fun k_=>some k_≠(.slice (some ad121) x4_2.length co39:Value).ownBlock) (fun _=>False) rfl rfl ?aP (fun _ hk=>hk.elim) ?aF ?aO ?aB ?aS ?aL ?_;(case aP=>exact rfl);(case aB=>exact zq25);(case aF=>exact (fun k_ hk=>Kd.fresh' (Kd.R_lt zq7) k_ hk));(case aO=>exact zq33);(case aS=>exact (below_size zq25));(case aL=>have:=LMc34.out;omega);intro v123 w40 ho hb hg hat;rw [← Ny122.out] at ho;have n0_:=am (Kd.R_after (ok:=(fun _=>True)) (by (with_reducible repeat (first|apply Kd.R_alloc|apply Kd.R_drewN|apply Kd.R_drew));exact Kd.R_mono HO_4.out (fun _ hk=>⟨trivial,hk⟩)) hg hat);have n1_:=am (Kd.R_over' zq58 (Kd.R_typed zq33) (by decide) hg);have n2_:=am (blk_grown (g:=gb120) (o:=.cells #[.int .i8 ((rd_T46 t101 x56_3).f0),.int .i64 ((rd_T46 t101 x56_3).f1),.int .i64 ((rd_T46 t101 x56_3).f2),.int .i64 ((rd_T46 t101 x56_3).f3)] 46 (0,0)) (by (with_reducible repeat (first|refine blk_drewN ?_ _|refine blk_drew ?_|refine blk_alloc ?_ _));exact BK120.out) hg (Kd.R_ne HO_9.out BK120.out (by decide)));have n3_:=am (hb);have n4_:=am (ho);clear HO_4;clear HO_54;clear BK120;clear HB;clear HO_9;have HO_4:=n0_;have HO_54:=n1_;have BK120:=n2_;have HB:=n3_;have HO124:=n4_;clear n0_ n1_ n2_ n3_ n4_;clear ho hb hg hat;refine hK.out _ _ ?_;clear hK K;refine norm_ (a':=?_) ?_ ?_;rotate_left
               ·show Act.put _ (some 81) _=_
                simp only [Act.put,List.setIfInBounds_toArray,List.set_cons_zero,List.set_cons_succ,i64_w,i32_w];rfl
               refine pw_ 9 9 ?_;refine done_ (done_of HT_.out zq19) ?_;(try go_wp2)
               go_roundg k3
               case measure=>have:=HK1.out;have:=HK2.out;have:=HK3.out;omega
               case rel=>exact ⟨(y122),(wrap64 (x56_3 + 1)),zq3,H',⟨by have:=HK1.out;have:=HK2.out;have:=HK3.out;omega⟩,⟨by (with_reducible repeat (first|apply Kd.R_alloc|apply Kd.R_drewN|apply Kd.R_drew));exact Kd.R_mono HO_4.out (fun _ hk=>hk.2)⟩,⟨by (with_reducible repeat (first|apply Kd.R_alloc|apply Kd.R_drewN|apply Kd.R_drew));exact HO124.out⟩,⟨by (with_reducible repeat (first|apply Kd.R_alloc|apply Kd.R_drewN|apply Kd.R_drew));exact Kd.R_mono HO_54.out (fun _ hk=>trivial)⟩,⟨by repeat (first|(with_reducible first|exact HB.out|apply below_alloc|apply pw_below_drewN|apply below_drew1|refine below_set ?_ GE120.out)|exact HB.out)⟩⟩
              ·rw [if_neg c34] at H;exact absurd H (by simp)
             ·rw [if_neg c32] at H;exact absurd H (by simp)
            ·rw [if_neg c31] at H;have c31b0:=beq_eq_false_iff_ne.mpr c31;have c31b1:=bne_iff_ne.mpr c31
             by_cases c41:((rd_T46 t101 x56_3).f0) < 0
             ·rw [if_pos c41] at H;have c41b0:=decide_eq_true c41;clear c41
              by_cases c42:x9_3.length < 17592186044416
              ·rw [if_pos c42] at H;have LMc42:=am c42;clear c42;obtain ⟨y125,hy125⟩:∃ y_:List Int,y_=(x9_3 ++ [(-1)]):=⟨_,rfl⟩
               replace H:(impl_hauledDown.l2 k3 x4_2 y125 t101 (t101.length:Int) (wrap64 (x56_3 + 1)))=some r:=by first|(rw [hy125];with_reducible exact H)|(have H2_:=(Option.bind_some _ _).symm.trans H;rw [hy125];with_reducible exact H2_)|(have H2_:=(Option.bind_some _ _).symm.trans H;with_reducible exact H2_)|with_reducible exact H|(rw [hy125];exact H)|exact H
               have Ny125:=am hy125;clear hy125;have H':=am H;clear H;have p119:0≤(x56_3:Int):=of_decide_eq_true zq2;have q119:x56_3 < (t101.length:Int):=of_decide_eq_true zq2;obtain ⟨ad119,e119,hx119_0,hx119_1,hx119_2,hx119_3⟩:=at_T46 (Kd.R_reads' HO_54.out).2.2 x56_3 p119 q119;cases e119;replace p119:=eq_true p119;replace q119:=eq_true q119
               go_wp2_with (first|((with_reducible refine gate_dst (N:=11) rfl ?_);refine box_event ?hg (N:=11) ?hd (cs:=#[.int .i8 0,.int .i64 0,.int .i64 0,.int .i64 0]) (t:=46) ?hr ?_;(case hd=>rfl);(case hg=>rfl);(case hr=>exact zq12);intro gb120 hg w43 hbox hb;have n0_:=am (Kd.R_below zq7 hb);have n1_:=am (Kd.R_below zq33 hb);have n2_:=am (Kd.R_below (Kd.R_elderB zq58 gb120 (Nat.le_of_eq hg.symm)) hb);have n3_:=am (below_step zq0 hb);have n4_:=am (hbox);have n5_:=am ((by rw [hg];exact (below_size zq0):w.heap.size≤gb120));have n6_:=am ((by rw [hg];exact (below_size zq0):w.heap.size≤gb120));clear HO_4;clear HO_9;clear HO_54;clear HB;have HO_4:=n0_;have HO_9:=n1_;have HO_54:=n2_;have HB:=n3_;have BK120:=n4_;have GW120:=n5_;have GE120:=n6_;clear n0_ n1_ n2_ n3_ n4_ n5_ n6_;clear hb hbox hg;have hcz44_0:w43.cell? ⟨gb120,0,none⟩=some (.int .i8 0):=(blk_cell BK120.out 0).trans rfl;have hcz44_1:w43.cell? ⟨gb120,1,none⟩=some (.int .i64 0):=(blk_cell BK120.out 1).trans rfl;have hcz44_2:w43.cell? ⟨gb120,2,none⟩=some (.int .i64 0):=(blk_cell BK120.out 2).trans rfl;have hcz44_3:w43.cell? ⟨gb120,3,none⟩=some (.int .i64 0):=(blk_cell BK120.out 3).trans rfl;have hfz44_0:=blk_frozen BK120.out 0;have hfz44_1:=blk_frozen BK120.out 1;have hfz44_2:=blk_frozen BK120.out 2;have hfz44_3:=blk_frozen BK120.out 3)|((with_reducible refine gate_builtin (b:=.append) (xs:=#[.tmp 86,.tmp 87]) rfl ?_);at_builtin;refine Kd.R_append (Kd.int .i64) (w0:=w) w.heap.size rfl (.tmp 86) (.tmp 87) 34 2 (.int .i64 0) 8 rfl Tryz.underlying34 info2 rfl (by decide) (by omega) u9 x9_3 (-1) [.int .i64 (-1)] (fun k_=>some k_≠(u4:Value).ownBlock) (fun _=>False) rfl zq12 ?aP (fun _ hk=>hk.elim) ?aF ?aO ?aB ?aS ?aL ?_;(case aP=>exact rfl);(case aB=>exact zq25);(case aF=>exact (fun k_ hk=>Kd.fresh' (Kd.R_lt zq41) k_ hk));(case aO=>exact zq43);(case aS=>exact (below_size zq25));(case aL=>have:=LMc42.out;omega);intro v126 w45 ho hb hg hat;rw [← Ny125.out] at ho;have n0_:=am (Kd.R_after (ok:=(fun _=>True)) zq36 hg hat);have n1_:=am (Kd.R_over' zq35 (Kd.R_typed zq40) (by decide) hg);have n2_:=am (blk_grown (g:=gb120) (o:=.cells #[.int .i8 ((rd_T46 t101 x56_3).f0),.int .i64 ((rd_T46 t101 x56_3).f1),.int .i64 ((rd_T46 t101 x56_3).f2),.int .i64 ((rd_T46 t101 x56_3).f3)] 46 (0,0)) zq23 hg (Kd.R_ne HO_9.out BK120.out (by decide)));have n3_:=am (hb);have n4_:=am (ho);clear HO_4;clear HO_54;clear BK120;clear HB;clear HO_9;have HO_4:=n0_;have HO_54:=n1_;have BK120:=n2_;have HB:=n3_;have HO127:=n4_;clear n0_ n1_ n2_ n3_ n4_;clear ho hb hg hat))
               go_roundg k3
               case measure=>have:=HK1.out;have:=HK2.out;have:=HK3.out;omega
               case rel=>exact ⟨(y125),(wrap64 (x56_3 + 1)),zq3,H',⟨by have:=HK1.out;have:=HK2.out;have:=HK3.out;omega⟩,⟨by (with_reducible repeat (first|apply Kd.R_alloc|apply Kd.R_drewN|apply Kd.R_drew));exact Kd.R_mono HO_4.out (fun _ hk=>hk.2)⟩,⟨by (with_reducible repeat (first|apply Kd.R_alloc|apply Kd.R_drewN|apply Kd.R_drew));exact HO127.out⟩,⟨by (with_reducible repeat (first|apply Kd.R_alloc|apply Kd.R_drewN|apply Kd.R_drew));exact Kd.R_mono HO_54.out (fun _ hk=>trivial)⟩,⟨by repeat (first|(with_reducible first|exact HB.out|apply below_alloc|apply pw_below_drewN|apply below_drew1|refine below_set ?_ GE120.out)|exact HB.out)⟩⟩
              ·rw [if_neg c42] at H;exact absurd H (by simp)
             ·rw [if_neg c41] at H;have c41b0:=decide_eq_false c41;clear c41
              by_cases c46:0≤((rd_T46 t101 x56_3).f0)
              ·rw [if_pos c46] at H;have c46b0:=decide_eq_true c46;clear c46
               by_cases c47:((rd_T46 t101 x56_3).f0) < (x9_3.length:Int)
               ·rw [if_pos c47] at H;have c47b0:=decide_eq_true c47;clear c47
                by_cases c48:x9_3.length < 17592186044416
                ·rw [if_pos c48] at H;have LMc48:=am c48;clear c48;obtain ⟨y129,hy129⟩:∃ y_:List Int,y_=(x9_3 ++ [wrap64 ((rd x9_3 ((rd_T46 t101 x56_3).f0)) + 1)]):=⟨_,rfl⟩
                 replace H:(impl_hauledDown.l2 k3 x4_2 y129 t101 (t101.length:Int) (wrap64 (x56_3 + 1)))=some r:=by first|(rw [hy129];with_reducible exact H)|(have H2_:=(Option.bind_some _ _).symm.trans H;rw [hy129];with_reducible exact H2_)|(have H2_:=(Option.bind_some _ _).symm.trans H;with_reducible exact H2_)|with_reducible exact H|(rw [hy129];exact H)|exact H
                 have Ny129:=am hy129;clear hy129;have H':=am H;clear H;have p119:0≤(x56_3:Int):=of_decide_eq_true zq2;have q119:x56_3 < (t101.length:Int):=of_decide_eq_true zq2;obtain ⟨ad119,e119,hx119_0,hx119_1,hx119_2,hx119_3⟩:=at_T46 (Kd.R_reads' HO_54.out).2.2 x56_3 p119 q119;cases e119;replace p119:=eq_true p119;replace q119:=eq_true q119
                 go_wp2_with (first|((with_reducible refine gate_dst (N:=11) rfl ?_);refine box_event ?hg (N:=11) ?hd (cs:=#[.int .i8 0,.int .i64 0,.int .i64 0,.int .i64 0]) (t:=46) ?hr ?_;(case hd=>rfl);(case hg=>rfl);(case hr=>exact zq12);intro gb120 hg w49 hbox hb;have n0_:=am (Kd.R_below zq7 hb);have n1_:=am (Kd.R_below zq33 hb);have n2_:=am (Kd.R_below (Kd.R_elderB zq58 gb120 (Nat.le_of_eq hg.symm)) hb);have n3_:=am (below_step zq0 hb);have n4_:=am (hbox);have n5_:=am ((by rw [hg];exact (below_size zq0):w.heap.size≤gb120));have n6_:=am ((by rw [hg];exact (below_size zq0):w.heap.size≤gb120));clear HO_4;clear HO_9;clear HO_54;clear HB;have HO_4:=n0_;have HO_9:=n1_;have HO_54:=n2_;have HB:=n3_;have BK120:=n4_;have GW120:=n5_;have GE120:=n6_;clear n0_ n1_ n2_ n3_ n4_ n5_ n6_;clear hb hbox hg;have hcz50_0:w49.cell? ⟨gb120,0,none⟩=some (.int .i8 0):=(blk_cell BK120.out 0).trans rfl;have hcz50_1:w49.cell? ⟨gb120,1,none⟩=some (.int .i64 0):=(blk_cell BK120.out 1).trans rfl;have hcz50_2:w49.cell? ⟨gb120,2,none⟩=some (.int .i64 0):=(blk_cell BK120.out 2).trans rfl;have hcz50_3:w49.cell? ⟨gb120,3,none⟩=some (.int .i64 0):=(blk_cell BK120.out 3).trans rfl;have hfz50_0:=blk_frozen BK120.out 0;have hfz50_1:=blk_frozen BK120.out 1;have hfz50_2:=blk_frozen BK120.out 2;have hfz50_3:=blk_frozen BK120.out 3;obtain ⟨Ao51,co51,eo51⟩:=Kd.R_slice HO_9.out;subst eo51;have p128:0≤(((rd_T46 t101 x56_3).f0):Int):=of_decide_eq_true zq2;have q128:((rd_T46 t101 x56_3).f0) < (x9_3.length:Int):=of_decide_eq_true zq2;obtain ⟨ad128,e128,hx128_0⟩:=Kd.at_int (Kd.R_reads' HO_9.out).2.2 ((rd_T46 t101 x56_3).f0) p128 q128;cases e128;have hn128_0:ad128.block≠gb120:=Kd.own_blk (Kd.R_ne HO_9.out BK120.out (by decide));have hn128_1:ad128.block≠gb120:=Kd.own_blk (Kd.R_ne HO_9.out BK120.out (by decide));have hn128_2:ad128.block≠gb120:=Kd.own_blk (Kd.R_ne HO_9.out BK120.out (by decide));have hn128_3:ad128.block≠gb120:=Kd.own_blk (Kd.R_ne HO_9.out BK120.out (by decide));replace hx128_0:=(cell_far (p:=⟨gb120,0,none⟩) (by first|(rw [add_block];exact hn128_0)|(show (Addr.add _ _).block≠_;rw [add_block];exact hn128_0)|exact hn128_0) (.int .i8 ((rd_T46 t101 x56_3).f0))).trans hx128_0;replace hx128_0:=(cell_far (p:=⟨gb120,1,none⟩) (by first|(rw [add_block];exact hn128_1)|(show (Addr.add _ _).block≠_;rw [add_block];exact hn128_1)|exact hn128_1) (.int .i64 ((rd_T46 t101 x56_3).f1))).trans hx128_0;replace hx128_0:=(cell_far (p:=⟨gb120,2,none⟩) (by first|(rw [add_block];exact hn128_2)|(show (Addr.add _ _).block≠_;rw [add_block];exact hn128_2)|exact hn128_2) (.int .i64 ((rd_T46 t101 x56_3).f2))).trans hx128_0;replace hx128_0:=(cell_far (p:=⟨gb120,3,none⟩) (by first|(rw [add_block];exact hn128_3)|(show (Addr.add _ _).block≠_;rw [add_block];exact hn128_3)|exact hn128_3) (.int .i64 ((rd_T46 t101 x56_3).f3))).trans hx128_0;clear hn128_0;clear hn128_1;clear hn128_2;clear hn128_3;replace p128:=eq_true p128;replace q128:=eq_true q128)|((with_reducible refine gate_builtin (b:=.append) (xs:=#[.tmp 61,.tmp 68]) rfl ?_);at_builtin;refine Kd.R_append (Kd.int .i64) (w0:=w) w.heap.size rfl (.tmp 61) (.tmp 68) 34 2 (.int .i64 0) 8 rfl Tryz.underlying34 info2 rfl (by decide) (by omega) (.slice (some ad128) x9_3.length co51) x9_3 (wrap64 ((rd x9_3 ((rd_T46 t101 x56_3).f0)) + 1)) [.int .i64 (wrap64 ((rd x9_3 ((rd_T46 t101 x56_3).f0)) + 1))] (fun k_=>some k_≠(u4:Value).ownBlock) (fun _=>False) rfl zq12 ?aP (fun _ hk=>hk.elim) ?aF ?aO ?aB ?aS ?aL ?_;(case aP=>exact rfl);(case aB=>exact zq25);(case aF=>exact (fun k_ hk=>Kd.fresh' (Kd.R_lt zq41) k_ hk));(case aO=>exact zq43);(case aS=>exact (below_size zq25));(case aL=>have:=LMc48.out;omega);intro v130 w52 ho hb hg hat;rw [← Ny129.out] at ho;have n0_:=am (Kd.R_after (ok:=(fun _=>True)) zq36 hg hat);have n1_:=am (Kd.R_over' zq35 (Kd.R_typed zq40) (by decide) hg);have n2_:=am (blk_grown (g:=gb120) (o:=.cells #[.int .i8 ((rd_T46 t101 x56_3).f0),.int .i64 ((rd_T46 t101 x56_3).f1),.int .i64 ((rd_T46 t101 x56_3).f2),.int .i64 ((rd_T46 t101 x56_3).f3)] 46 (0,0)) zq23 hg (Kd.R_ne HO_9.out BK120.out (by decide)));have n3_:=am (hb);have n4_:=am (ho);clear HO_4;clear HO_54;clear BK120;clear HB;clear HO_9;have HO_4:=n0_;have HO_54:=n1_;have BK120:=n2_;have HB:=n3_;have HO131:=n4_;clear n0_ n1_ n2_ n3_ n4_;clear ho hb hg hat))
                 go_roundg k3
                 case measure=>have:=HK1.out;have:=HK2.out;have:=HK3.out;omega
                 case rel=>exact ⟨(y129),(wrap64 (x56_3 + 1)),zq3,H',⟨by have:=HK1.out;have:=HK2.out;have:=HK3.out;omega⟩,⟨by (with_reducible repeat (first|apply Kd.R_alloc|apply Kd.R_drewN|apply Kd.R_drew));exact Kd.R_mono HO_4.out (fun _ hk=>hk.2)⟩,⟨by (with_reducible repeat (first|apply Kd.R_alloc|apply Kd.R_drewN|apply Kd.R_drew));exact HO131.out⟩,⟨by (with_reducible repeat (first|apply Kd.R_alloc|apply Kd.R_drewN|apply Kd.R_drew));exact Kd.R_mono HO_54.out (fun _ hk=>trivial)⟩,⟨by repeat (first|(with_reducible first|exact HB.out|apply below_alloc|apply pw_below_drewN|apply below_drew1|refine below_set ?_ GE120.out)|exact HB.out)⟩⟩
                ·rw [if_neg c48] at H;exact absurd H (by simp)
               ·rw [if_neg c47] at H;exact absurd H (by simp)
              ·rw [if_neg c46] at H;exact absurd H (by simp)
           ·rw [if_neg c30] at H;exact absurd H (by simp)
          ·rw [if_neg c29] at H;exact absurd H (by simp)
         ·rw [if_neg c28] at H;have c28b0:=decide_eq_false c28;clear c28;obtain rfl:=Option.some.inj H
          go_wp2
          go_ret
          exact ⟨_,by first|rfl|(simp [errW_none,errW_some,IntKind.wrap_i64,wrap64];done)|(simp [errW_none,errW_some] <;> rfl)|(simp [*,errW_none,errW_some] <;> rfl),by (with_reducible repeat (first|apply Kd.R_alloc|apply Kd.R_drewN|apply Kd.R_drew));exact Kd.R_mono HO_9.out (fun _ hk=>trivial),by repeat (first|(with_reducible first|exact HB.out|apply below_alloc|apply pw_below_drewN|apply below_drew1)|exact HB.out)⟩
def impl_HauledDown.f (k:Nat) (l0:List (S52)):Option (List Int × Int):=(impl_ValidLine.f l0).bind fun t101=>(if t101=true then ((impl_hauledDown.f k l0).bind fun t102=>(some (t102,0))) else (some (([]:List Int),1)))
set_option maxHeartbeats 8000000 in
set_option maxRecDepth 100000 in
theorem impl_HauledDown.calls (k:Nat) (A0:Option Addr) (c0:Nat) (l0:List (S52)) (r1:List Int) (r2:Int) (w:World) (hr0:Kd.C k52 w A0 l0.length l0) (hc0:l0.length≤c0) (h:impl_HauledDown.f k l0=some (r1,r2)) :
  Calls Tryz.prog 13 #[.slice A0 l0.length c0] w fun e w'=>∃ v0_:Value,e=.returned (.tuple #[v0_,.int .i64 r2])∧Kd.R (Kd.int .i64) 2 w' w.heap.size (fun _=>True) v0_ r1∧Below w.heap.size w w':=by
 have HR0:=am hr0;have HC0:=am hc0;clear hr0 hc0;have HB:=am (Below.refl w.heap.size w);have H:((impl_ValidLine.f l0).bind fun t101=>(if t101=true then ((impl_hauledDown.f k l0).bind fun t102=>(some (t102,0))) else (some (([]:List Int),1))))=some (r1,r2):=h;clear h;replace H:=Option.bind_eq_some_iff.mp H;obtain ⟨t101,A20,H⟩:=H;replace H:(if t101=true then ((impl_hauledDown.f k l0).bind fun t102=>(some (t102,0))) else (some (([]:List Int),1)))=some (r1,r2):=H;have A2:=am A20;clear A20
 by_cases c3:t101=true
 ·subst c3
  have H1:((impl_hauledDown.f k l0).bind fun t102=>(some (t102,0)))=some (r1,r2):=by rw [if_pos rfl] at H;exact H
  clear H;have H:=H1;clear H1;replace H:=Option.bind_eq_some_iff.mp H;obtain ⟨t102,A40,H⟩:=H;replace H:(some (t102,0))=some (r1,r2):=H;have A4:=am A40;clear A40;simp only [Option.some.injEq,Prod.mk.injEq] at H;obtain ⟨rfl,rfl⟩:=H
  go_enter Tryz.func13,Tryz.ntmps13
  go_wp2_with (first|((with_reducible refine gate_callee (f:=19) rfl ?_);refine goesL_ (some 5) rfl rfl Tryz.func19 zq19 rfl #[.slice A0 l0.length c0] rfl zq1 ?_;(with_reducible refine (impl_ValidLine.calls _ _ l0 true _ ?side1 ?side2 A2.out).mono ?_);(case side1=>exact zq4);(case side2=>exact HC0.out);rintro e w5 ⟨rfl,hb⟩;refine ⟨_,rfl,?_⟩;have n0_:=am (below_step zq0 hb);clear HB;have HB:=n0_;clear n0_;(try clear hb);(try clear hb2);(try clear hk);(try clear hi))|((with_reducible refine gate_callee (f:=36) rfl ?_);refine goesL_ (some 8) rfl rfl Tryz.func36 zq19 rfl #[.slice A0 l0.length c0] rfl zq1 ?_;(with_reducible refine (impl_hauledDown.calls k _ _ l0 t102 _ ?side1 ?side2 A4.out).mono ?_);(case side1=>exact zq11);(case side2=>exact HC0.out);rintro e w6 ⟨v103,rfl,ho0,hb⟩;refine ⟨_,rfl,?_⟩;have n0_:=am (Kd.R_lower ho0 (below_size zq0));have n1_:=am (below_step zq0 hb);clear HB;have HO104:=n0_;have HB:=n1_;clear n0_ n1_;(try clear hb);(try clear hb2);(try clear hk);(try clear hi);(try clear ho0)))
  go_ret2
  exact ⟨_,by first|rfl|(simp [errW_none,errW_some,IntKind.wrap_i64,wrap64];done)|(simp [errW_none,errW_some] <;> rfl)|(simp [*,errW_none,errW_some] <;> rfl),by (with_reducible repeat (first|apply Kd.R_alloc|apply Kd.R_drewN|apply Kd.R_drew));exact HO104.out,by repeat (first|(with_reducible first|exact HB.out|apply below_alloc|apply pw_below_drewN|apply below_drew1)|exact HB.out)⟩
 ·replace c3:=Bool.eq_false_iff.mpr c3;subst c3
  have H1:(some (([]:List Int),1))=some (r1,r2):=by rw [if_neg (show ¬ (false=true) by decide)] at H;exact H
  clear H;have H:=H1;clear H1;simp only [Option.some.injEq,Prod.mk.injEq] at H;obtain ⟨rfl,rfl⟩:=H
  go_enter Tryz.func13,Tryz.ntmps13
  go_wp2_with (first|((with_reducible refine gate_callee (f:=19) rfl ?_);refine goesL_ (some 5) rfl rfl Tryz.func19 zq19 rfl #[.slice A0 l0.length c0] rfl zq1 ?_;(with_reducible refine (impl_ValidLine.calls _ _ l0 false _ ?side1 ?side2 A2.out).mono ?_);(case side1=>exact zq4);(case side2=>exact HC0.out);rintro e w7 ⟨rfl,hb⟩;refine ⟨_,rfl,?_⟩;have n0_:=am (below_step zq0 hb);clear HB;have HB:=n0_;clear n0_;(try clear hb);(try clear hb2);(try clear hk);(try clear hi)))
  go_ret2
  exact ⟨_,by first|rfl|(simp [errW_none,errW_some,IntKind.wrap_i64,wrap64];done)|(simp [errW_none,errW_some] <;> rfl)|(simp [*,errW_none,errW_some] <;> rfl),by first|exact Kd.R_nil _ _ _ _ _|exact Kd.N_nil _ _ _ _ _|exact Kd.V_nil _ _ _ _ _|exact Kd.Q_nil _ _ _ _ _|exact Kd.S_nil _ _ _ _ _,by repeat (first|(with_reducible first|exact HB.out|apply below_alloc|apply pw_below_drewN|apply below_drew1)|exact HB.out)⟩
def gmax (l:List Int):Int:=match l with|[]=>0|x :: xs=>xs.foldl mx x
theorem gmax_snoc {l:List Int} {k:Nat} (h0:1≤k) (h:k < l.length):gmax (l.take (k + 1))=mx (gmax (l.take k)) (rd l (k:Int)):=by
 rw [List.take_succ_eq_append_getElem h]
 have e:rd l (k:Int)=l[k]:=by simp [rd,List.getD_eq_getElem?_getD,List.getElem?_eq_getElem h]
 rw [e]
 rcases hl:l.take k with _|⟨x,xs⟩
 ·have:=congrArg List.length hl
  simp at this
  rcases this with h1|h1
  ·omega
  ·subst h1
   simp at h
 ·simp [gmax,List.foldl_append]
def slices_Max_int64_int64.f (l0:List Int):Option Int:=if 1≤l0.length then some (gmax l0) else none
set_option maxHeartbeats 4000000 in
theorem slices_Max_int64_int64.calls (A0:Option Addr) (c0:Nat) (l0:List Int) (r:Int) (w:World) (hr0:Kd.C (Kd.int .i64) w A0 l0.length l0) (hc0:l0.length≤c0) (h:slices_Max_int64_int64.f l0=some r) :
  Calls Tryz.prog 38 #[.slice A0 l0.length c0] w fun e w'=>e=.returned (.int .i64 r)∧Drawn0 w w':=by
 unfold slices_Max_int64_int64.f at h
 by_cases h1:1≤l0.length
 ·rw [if_pos h1] at h;obtain rfl:=Option.some.inj h;clear h;have hl:l0.length≤9223372036854775807:=hr0.2.1;obtain ⟨ad,e0,h0⟩:=Kd.at_int hr0 0 (by omega) (by omega);have HR0:=am hr0;cases e0;simp only [show (0:Int).toNat=0 from rfl,Addr.add_zero'] at h0;clear hr0;have hq:decide ((l0.length:Int) < 1)=false:=decide_eq_false (by omega);have hq0:((0:Int) < (l0.length:Int))=True:=eq_true (by omega);have hq1:(0 < l0.length)=True:=eq_true (by omega)
  have hr1:gmax (l0.take 1)=rd l0 0:=by
   rcases l0 with _|⟨x,l⟩
   ·simp at h1
   ·simp [gmax,rd]
  have HR1:=am hr1;clear hr1
  go_enter Tryz.func38,Tryz.ntmps38
  go_wp2
  go_loopg [3,4] l0.length (fun gg s3 s4 wr=>∃ kk:Nat,1≤kk∧kk≤l0.length∧l0.length - kk≤gg∧s4=.int .i64 kk∧s3=.int .i64 (gmax (l0.take kk))∧Aside0 (Drawn0 w wr))
  case atStart=>exact ⟨1,by omega,by omega,by omega,rfl,by rw [HR1.out],⟨by repeat (first|exact Drawn0.refl _|apply Drawn0.step)⟩⟩
  case round =>
   obtain ⟨kk,h1k,hkk,hg,rfl,rfl,HD⟩:=hrel
   by_cases hlt:kk < l0.length
   ·have hltz:decide ((kk:Int) < (l0.length:Int))=true:=decide_eq_true (by omega);obtain ⟨ad',e0,hx⟩:=Kd.at_int HR0.out (kk:Int) (by omega) (by omega)
    obtain rfl:ad=ad':=by injection e0
    simp only [Int.toNat_natCast] at hx;replace hx:=(HD.out.below.cell (World.block_lt_of_cell? w _ hx)).trans hx;have HS:=am (gmax_snoc h1k hlt);clear h0
    go_wp2
    all_goals
     go_roundg (l0.length - (kk + 1))
     case measure=>omega
     case rel=>exact ⟨kk + 1,by omega,by omega,by omega,by go_num,by rw [HS.out,mx];first|rw [if_pos (by omega)]|rw [if_neg (by omega)],HD⟩
   ·have hltz:decide ((kk:Int) < (l0.length:Int))=false:=decide_eq_false (by omega)
    have:kk=l0.length:=by omega
    have HK:=am this;clear this
    go_wp2
    go_ret
    exact ⟨by rw [HK.out,List.take_length];rfl,HD.out⟩
 ·rw [if_neg h1] at h;cases h
def impl_LastDown.f (k:Nat) (l0:List (S52)):Option (Int × Int):=(impl_ValidLine.f l0).bind fun t101=>(if t101=true then ((impl_hauledDown.f k l0).bind fun t102=>((slices_Max_int64_int64.f t102).bind fun t105=>(some (t105,0)))) else (some (0,1)))
set_option maxHeartbeats 8000000 in
set_option maxRecDepth 100000 in
theorem impl_LastDown.calls (k:Nat) (A0:Option Addr) (c0:Nat) (l0:List (S52)) (r1:Int) (r2:Int) (w:World) (hr0:Kd.C k52 w A0 l0.length l0) (hc0:l0.length≤c0) (h:impl_LastDown.f k l0=some (r1,r2)) :
  Calls Tryz.prog 15 #[.slice A0 l0.length c0] w fun e w'=>e=.returned (.tuple #[.int .i64 r1,.int .i64 r2])∧Below w.heap.size w w':=by
 have HR0:=am hr0;have HC0:=am hc0;clear hr0 hc0;have HB:=am (Below.refl w.heap.size w);have H:((impl_ValidLine.f l0).bind fun t101=>(if t101=true then ((impl_hauledDown.f k l0).bind fun t102=>((slices_Max_int64_int64.f t102).bind fun t105=>(some (t105,0)))) else (some (0,1))))=some (r1,r2):=h;clear h;replace H:=Option.bind_eq_some_iff.mp H;obtain ⟨t101,A20,H⟩:=H;replace H:(if t101=true then ((impl_hauledDown.f k l0).bind fun t102=>((slices_Max_int64_int64.f t102).bind fun t105=>(some (t105,0)))) else (some (0,1)))=some (r1,r2):=H;have A2:=am A20;clear A20
 by_cases c3:t101=true
 ·subst c3
  have H1:((impl_hauledDown.f k l0).bind fun t102=>((slices_Max_int64_int64.f t102).bind fun t105=>(some (t105,0))))=some (r1,r2):=by rw [if_pos rfl] at H;exact H
  clear H;have H:=H1;clear H1;replace H:=Option.bind_eq_some_iff.mp H;obtain ⟨t102,A40,H⟩:=H;replace H:((slices_Max_int64_int64.f t102).bind fun t105=>(some (t105,0)))=some (r1,r2):=H;have A4:=am A40;clear A40;replace H:=Option.bind_eq_some_iff.mp H;obtain ⟨t105,A50,H⟩:=H;replace H:(some (t105,0))=some (r1,r2):=H;have A5:=am A50;clear A50;simp only [Option.some.injEq,Prod.mk.injEq] at H;obtain ⟨rfl,rfl⟩:=H
  go_enter Tryz.func15,Tryz.ntmps15
  go_wp2_with (first|((with_reducible refine gate_callee (f:=19) rfl ?_);refine goesL_ (some 5) rfl rfl Tryz.func19 zq19 rfl #[.slice A0 l0.length c0] rfl zq1 ?_;(with_reducible refine (impl_ValidLine.calls _ _ l0 true _ ?side1 ?side2 A2.out).mono ?_);(case side1=>exact zq4);(case side2=>exact HC0.out);rintro e w6 ⟨rfl,hb⟩;refine ⟨_,rfl,?_⟩;have n0_:=am (below_step zq0 hb);clear HB;have HB:=n0_;clear n0_;(try clear hb);(try clear hb2);(try clear hk);(try clear hi))|((with_reducible refine gate_callee (f:=36) rfl ?_);refine goesL_ (some 8) rfl rfl Tryz.func36 zq19 rfl #[.slice A0 l0.length c0] rfl zq1 ?_;(with_reducible refine (impl_hauledDown.calls k _ _ l0 t102 _ ?side1 ?side2 A4.out).mono ?_);(case side1=>exact zq11);(case side2=>exact HC0.out);rintro e w7 ⟨v103,rfl,ho0,hb⟩;refine ⟨_,rfl,?_⟩;have n0_:=am (Kd.R_lower ho0 (below_size zq0));have n1_:=am (below_step zq0 hb);clear HB;have HO104:=n0_;have HB:=n1_;clear n0_ n1_;(try clear hb);(try clear hb2);(try clear hk);(try clear hi);(try clear ho0);obtain ⟨Ao8,co8,eo8⟩:=Kd.R_slice HO104.out;subst eo8)|((with_reducible refine gate_callee (f:=38) rfl ?_);refine goesL_ (some 9) rfl rfl Tryz.func38 zq19 rfl #[.slice Ao8 t102.length co8] rfl zq1 ?_;(with_reducible refine (slices_Max_int64_int64.calls _ _ t102 t105 _ ?side1 ?side2 A5.out).mono ?_);(case side1=>exact zq6);(case side2=>exact (Kd.R_reads' HO104.out).2.1);rintro e w' ⟨rfl,⟨nd,rfl⟩⟩;refine ⟨_,rfl,?_⟩))
  go_ret2
  exact ⟨by first|rfl|(simp [errW_none,errW_some,IntKind.wrap_i64,wrap64];done)|(simp [errW_none,errW_some] <;> rfl)|(simp [*,errW_none,errW_some] <;> rfl),by repeat (first|(with_reducible first|exact HB.out|apply below_alloc|apply pw_below_drewN|apply below_drew1)|exact HB.out)⟩
 ·replace c3:=Bool.eq_false_iff.mpr c3;subst c3
  have H1:(some (0,1))=some (r1,r2):=by rw [if_neg (show ¬ (false=true) by decide)] at H;exact H
  clear H;have H:=H1;clear H1;simp only [Option.some.injEq,Prod.mk.injEq] at H;obtain ⟨rfl,rfl⟩:=H
  go_enter Tryz.func15,Tryz.ntmps15
  go_wp2_with (first|((with_reducible refine gate_callee (f:=19) rfl ?_);refine goesL_ (some 5) rfl rfl Tryz.func19 zq19 rfl #[.slice A0 l0.length c0] rfl zq1 ?_;(with_reducible refine (impl_ValidLine.calls _ _ l0 false _ ?side1 ?side2 A2.out).mono ?_);(case side1=>exact zq4);(case side2=>exact HC0.out);rintro e w9 ⟨rfl,hb⟩;refine ⟨_,rfl,?_⟩;have n0_:=am (below_step zq0 hb);clear HB;have HB:=n0_;clear n0_;(try clear hb);(try clear hb2);(try clear hk);(try clear hi)))
  go_ret2
  exact ⟨by first|rfl|(simp [errW_none,errW_some,IntKind.wrap_i64,wrap64];done)|(simp [errW_none,errW_some] <;> rfl)|(simp [*,errW_none,errW_some] <;> rfl),by repeat (first|(with_reducible first|exact HB.out|apply below_alloc|apply pw_below_drewN|apply below_drew1)|exact HB.out)⟩
end Go.Proofs.YtcoepebmmgcplabGreatDoor.G
end
section
namespace Go.Proofs
open Go.Shelf
def Tryz.lays156_ren:Go.Shelf.Ren:=⟨fun|156=>33|165=>53|166=>54|169=>55|240=>66|241=>67|276=>81|277=>82|n=>n,fun|31=>59|9=>9|3=>3|4=>4|0=>0|20=>20|72=>88|76=>90|70=>86|37=>22|75=>82|127=>100|164=>118|5=>5|80=>92|n=>n,fun|n=>n⟩
theorem Tryz.lays156:Go.Proofs.Lays.n156 Tryz.prog Tryz.lays156_ren:={
 mixed:=by kernel_rfl
 f156:=Tryz.func33.trans (congrArg some (by kernel_rfl))
 f165:=Tryz.func53.trans (congrArg some (by kernel_rfl))
 f166:=Tryz.func54.trans (congrArg some (by kernel_rfl))
 f169:=Tryz.func55.trans (congrArg some (by kernel_rfl))
 f240:=Tryz.func66.trans (congrArg some (by kernel_rfl))
 f241:=Tryz.func67.trans (congrArg some (by kernel_rfl))
 f276:=Tryz.func81.trans (congrArg some (by kernel_rfl))
 f277:=Tryz.func82.trans (congrArg some (by kernel_rfl))
 t0:=Tryz.underlying0
 a0:=Tryz.isAgg0
 z0:=Tryz.sizeOf0
 v0:=Tryz.zeroValue0
 t3:=Tryz.underlying3
 a3:=Tryz.isAgg3
 z3:=Tryz.sizeOf3
 v3:=Tryz.zeroValue3
 t4:=Tryz.underlying4
 a4:=Tryz.isAgg4
 z4:=Tryz.sizeOf4
 v4:=Tryz.zeroValue4
 t9:=Tryz.underlying9
 a9:=Tryz.isAgg9
 z9:=Tryz.sizeOf9
 v9:=Tryz.zeroValue9
 t20:=Tryz.underlying20
 a20:=Tryz.isAgg20
 z20:=Tryz.sizeOf20
 v20:=Tryz.zeroValue20
 t31:=Tryz.underlying59
 a31:=Tryz.isAgg59
 z31:=Tryz.sizeOf59
 v31:=Tryz.zeroValue59
 t37:=Tryz.underlying22
 a37:=Tryz.isAgg22
 z37:=Tryz.sizeOf22
 v37:=Tryz.zeroValue22
 t70:=Tryz.underlying86
 a70:=Tryz.isAgg86
 z70:=Tryz.sizeOf86
 v70:=Tryz.zeroValue86
 t72:=Tryz.underlying88
 a72:=Tryz.isAgg88
 z72:=Tryz.sizeOf88
 v72:=Tryz.zeroValue88
 t75:=Tryz.underlying82
 a75:=Tryz.isAgg82
 z75:=Tryz.sizeOf82
 v75:=Tryz.zeroValue82
 t76:=Tryz.underlying90
 a76:=Tryz.isAgg90
 z76:=Tryz.sizeOf90
 v76:=Tryz.zeroValue90
 t127:=Tryz.underlying100
 a127:=Tryz.isAgg100
 z127:=Tryz.sizeOf100
 v127:=Tryz.zeroValue100
 t164:=Tryz.underlying118
 a164:=Tryz.isAgg118
 z164:=Tryz.sizeOf118
 v164:=Tryz.zeroValue118 }
theorem Tryz.Builder_Extra_156:Builder.Extra Tryz.prog Tryz.lays156_ren:={
 sizeBuilder:=by kernel_rfl
 liesBuilder:=by kernel_rfl
 t5:=Tryz.underlying5
 a5:=Tryz.isAgg5
 z5:=Tryz.sizeOf5
 v5:=Tryz.zeroValue5
 infoByte:=by kernel_rfl
 cellsByte:=by kernel_rfl
 sizeByte:=by kernel_rfl
 neB5:=by decide }
open Go.RowKit in
theorem Tryz.strings_Join_none (a:Option Addr) (c:Nat) (sep:ByteArray) (w:World) :
  Calls Tryz.prog 33 #[.slice a 0 c,.string sep] w fun e w'=>e=.returned (.string ⟨#[]⟩)∧w'=w:=Any.strings_Join_none Tryz.lays156 Tryz.Builder_Extra_156 a c sep w
open Go.RowKit in
theorem Tryz.strings_Join (bk o c:Nat) (xs:List ByteArray) (sep:ByteArray) (w:World) (hcells:∀ (j:Nat) x,xs[j]?=some x→w.cell? ⟨bk,o + j,none⟩=some (.string x)) (hbk:bk < w.heap.size) (hN:xs.length≤140737488355328) (hcap:xs.length≤c) (hlen:(Lib.join (xs.map (·.data.toList)) sep.data.toList).length≤140737488355328) :
  Calls Tryz.prog 33 #[.slice (some ⟨bk,o,none⟩) xs.length c,.string sep] w fun e w'=>e=.returned (.string ⟨(Lib.join (xs.map (·.data.toList)) sep.data.toList).toArray⟩)∧Below w.heap.size w w':=Any.strings_Join Tryz.lays156 Tryz.Builder_Extra_156 bk o c xs sep w hcells hbk hN hcap hlen
def Tryz.laysM173_ren:Go.Shelf.Ren:=⟨fun|173=>52|246=>65|283=>77|284=>78|285=>79|286=>80|129=>94|317=>93|318=>95|319=>96|320=>97|337=>101|338=>102|n=>n,fun|2=>2|3=>3|9=>9|4=>4|171=>113|0=>0|53=>76|37=>22|5=>5|173=>116|212=>129|51=>130|20=>20|213=>131|46=>101|232=>144|233=>145|n=>n,fun|17=>3|18=>6|19=>7|n=>n⟩
theorem Tryz.laysM173:Go.Proofs.LaysM.n173 Tryz.prog Tryz.laysM173_ren:={
 mixed:=by kernel_rfl
 f129:=Tryz.func94.trans (congrArg some (by kernel_rfl))
 f173:=Tryz.func52.trans (congrArg some (by kernel_rfl))
 f246:=Tryz.func65.trans (congrArg some (by kernel_rfl))
 f283:=Tryz.func77.trans (congrArg some (by kernel_rfl))
 f284:=Tryz.func78.trans (congrArg some (by kernel_rfl))
 f285:=Tryz.func79.trans (congrArg some (by kernel_rfl))
 f286:=Tryz.func80.trans (congrArg some (by kernel_rfl))
 f317:=Tryz.func93.trans (congrArg some (by kernel_rfl))
 f318:=Tryz.func95.trans (congrArg some (by kernel_rfl))
 f319:=Tryz.func96.trans (congrArg some (by kernel_rfl))
 f320:=Tryz.func97.trans (congrArg some (by kernel_rfl))
 f337:=Tryz.func101.trans (congrArg some (by kernel_rfl))
 f338:=Tryz.func102.trans (congrArg some (by kernel_rfl))
 t0:=Tryz.underlying0
 a0:=Tryz.isAgg0
 z0:=Tryz.sizeOf0
 v0:=Tryz.zeroValue0
 t2:=Tryz.underlying2
 a2:=Tryz.isAgg2
 z2:=Tryz.sizeOf2
 v2:=Tryz.zeroValue2
 t3:=Tryz.underlying3
 a3:=Tryz.isAgg3
 z3:=Tryz.sizeOf3
 v3:=Tryz.zeroValue3
 t4:=Tryz.underlying4
 a4:=Tryz.isAgg4
 z4:=Tryz.sizeOf4
 v4:=Tryz.zeroValue4
 t5:=Tryz.underlying5
 a5:=Tryz.isAgg5
 z5:=Tryz.sizeOf5
 v5:=Tryz.zeroValue5
 t9:=Tryz.underlying9
 a9:=Tryz.isAgg9
 z9:=Tryz.sizeOf9
 v9:=Tryz.zeroValue9
 t20:=Tryz.underlying20
 a20:=Tryz.isAgg20
 z20:=Tryz.sizeOf20
 v20:=Tryz.zeroValue20
 t37:=Tryz.underlying22
 a37:=Tryz.isAgg22
 z37:=Tryz.sizeOf22
 v37:=Tryz.zeroValue22
 t46:=Tryz.underlying101
 a46:=Tryz.isAgg101
 z46:=Tryz.sizeOf101
 v46:=Tryz.zeroValue101
 t51:=Tryz.underlying130
 a51:=Tryz.isAgg130
 z51:=Tryz.sizeOf130
 v51:=Tryz.zeroValue130
 t53:=Tryz.underlying76
 a53:=Tryz.isAgg76
 z53:=Tryz.sizeOf76
 v53:=Tryz.zeroValue76
 t171:=Tryz.underlying113
 a171:=Tryz.isAgg113
 z171:=Tryz.sizeOf113
 v171:=Tryz.zeroValue113
 t173:=Tryz.underlying116
 a173:=Tryz.isAgg116
 z173:=Tryz.sizeOf116
 v173:=Tryz.zeroValue116
 t212:=Tryz.underlying129
 a212:=Tryz.isAgg129
 z212:=Tryz.sizeOf129
 v212:=Tryz.zeroValue129
 t213:=Tryz.underlying131
 a213:=Tryz.isAgg131
 z213:=Tryz.sizeOf131
 t232:=Tryz.underlying144
 a232:=Tryz.isAgg144
 z232:=Tryz.sizeOf144
 v232:=Tryz.zeroValue144
 t233:=Tryz.underlying145
 a233:=Tryz.isAgg145
 z233:=Tryz.sizeOf145
 v233:=Tryz.zeroValue145
 g17:=by kernel_rfl
 g18:=by kernel_rfl
 g19:=by kernel_rfl
 i0:=by kernel_rfl
 i2:=by kernel_rfl
 i3:=by kernel_rfl
 i4:=by kernel_rfl
 i5:=by kernel_rfl
 i9:=by kernel_rfl
 i20:=by kernel_rfl
 i37:=by kernel_rfl
 i46:=by kernel_rfl
 i51:=by kernel_rfl
 i53:=by kernel_rfl
 i171:=by kernel_rfl
 i173:=by kernel_rfl
 i212:=by kernel_rfl
 i232:=by kernel_rfl
 i233:=by kernel_rfl
 m17:=by kernel_rfl
 m18:=by kernel_rfl
 m19:=by kernel_rfl }
open Go.RowKit Go.Sort Go.Lib in
theorem Tryz.strconv_FormatInt_10 (n : Int) (h0 : -9223372036854775808 ≤ n) (h1 : n ≤ 9223372036854775807) (w : World) (htab : Lib.TabIs Tryz.prog w "internal/strconv.uint64pow10" .u64 Lib.pow10Tab) :
  Calls Tryz.prog 52 #[.int .i64 n,.int .i64 10] w fun e w'=>e=.returned (.string ⟨(Lib.itoa n).toArray⟩)∧∃ k os,w'=grow (w.drewN k) os:=Any.strconv_FormatInt_10 Tryz.laysM173 n h0 h1 w htab
def Tryz.laysC174_ren:Go.Shelf.Ren:=⟨fun|174=>51|247=>63|245=>64|287=>72|279=>73|280=>74|281=>75|282=>76|321=>88|322=>89|316=>90|171=>92|205=>91|243=>100|246=>65|283=>77|284=>78|285=>79|286=>80|129=>94|317=>93|318=>95|319=>96|320=>97|337=>101|338=>102|n=>n,fun|9=>9|3=>3|2=>2|75=>82|85=>83|4=>4|167=>106|5=>5|53=>76|175=>107|46=>101|168=>109|37=>22|0=>0|210=>126|21=>21|127=>100|145=>142|143=>140|171=>113|173=>116|212=>129|51=>130|20=>20|213=>131|232=>144|233=>145|80=>92|n=>n,fun|15=>1|16=>2|17=>3|18=>6|19=>7|n=>n⟩
theorem Tryz.laysC174:Go.Proofs.LaysC.n174 Tryz.prog Tryz.laysC174_ren:={
 mixed:=by kernel_rfl
 f129:=Tryz.func94.trans (congrArg some (by kernel_rfl))
 f171:=Tryz.func92.trans (congrArg some (by kernel_rfl))
 f174:=Tryz.func51.trans (congrArg some (by kernel_rfl))
 f205:=Tryz.func91.trans (congrArg some (by kernel_rfl))
 f243:=Tryz.func100.trans (congrArg some (by kernel_rfl))
 f245:=Tryz.func64.trans (congrArg some (by kernel_rfl))
 f246:=Tryz.func65.trans (congrArg some (by kernel_rfl))
 f247:=Tryz.func63.trans (congrArg some (by kernel_rfl))
 f279:=Tryz.func73.trans (congrArg some (by kernel_rfl))
 f280:=Tryz.func74.trans (congrArg some (by kernel_rfl))
 f281:=Tryz.func75.trans (congrArg some (by kernel_rfl))
 f282:=Tryz.func76.trans (congrArg some (by kernel_rfl))
 f283:=Tryz.func77.trans (congrArg some (by kernel_rfl))
 f284:=Tryz.func78.trans (congrArg some (by kernel_rfl))
 f285:=Tryz.func79.trans (congrArg some (by kernel_rfl))
 f286:=Tryz.func80.trans (congrArg some (by kernel_rfl))
 f287:=Tryz.func72.trans (congrArg some (by kernel_rfl))
 f316:=Tryz.func90.trans (congrArg some (by kernel_rfl))
 f317:=Tryz.func93.trans (congrArg some (by kernel_rfl))
 f318:=Tryz.func95.trans (congrArg some (by kernel_rfl))
 f319:=Tryz.func96.trans (congrArg some (by kernel_rfl))
 f320:=Tryz.func97.trans (congrArg some (by kernel_rfl))
 f321:=Tryz.func88.trans (congrArg some (by kernel_rfl))
 f322:=Tryz.func89.trans (congrArg some (by kernel_rfl))
 f337:=Tryz.func101.trans (congrArg some (by kernel_rfl))
 f338:=Tryz.func102.trans (congrArg some (by kernel_rfl))
 t0:=Tryz.underlying0
 a0:=Tryz.isAgg0
 z0:=Tryz.sizeOf0
 v0:=Tryz.zeroValue0
 t2:=Tryz.underlying2
 a2:=Tryz.isAgg2
 z2:=Tryz.sizeOf2
 v2:=Tryz.zeroValue2
 t3:=Tryz.underlying3
 a3:=Tryz.isAgg3
 z3:=Tryz.sizeOf3
 v3:=Tryz.zeroValue3
 t4:=Tryz.underlying4
 a4:=Tryz.isAgg4
 z4:=Tryz.sizeOf4
 v4:=Tryz.zeroValue4
 t5:=Tryz.underlying5
 a5:=Tryz.isAgg5
 z5:=Tryz.sizeOf5
 v5:=Tryz.zeroValue5
 t9:=Tryz.underlying9
 a9:=Tryz.isAgg9
 z9:=Tryz.sizeOf9
 v9:=Tryz.zeroValue9
 t20:=Tryz.underlying20
 a20:=Tryz.isAgg20
 z20:=Tryz.sizeOf20
 v20:=Tryz.zeroValue20
 t21:=Tryz.underlying21
 a21:=Tryz.isAgg21
 z21:=Tryz.sizeOf21
 v21:=Tryz.zeroValue21
 t37:=Tryz.underlying22
 a37:=Tryz.isAgg22
 z37:=Tryz.sizeOf22
 v37:=Tryz.zeroValue22
 t46:=Tryz.underlying101
 a46:=Tryz.isAgg101
 z46:=Tryz.sizeOf101
 v46:=Tryz.zeroValue101
 t51:=Tryz.underlying130
 a51:=Tryz.isAgg130
 z51:=Tryz.sizeOf130
 v51:=Tryz.zeroValue130
 t53:=Tryz.underlying76
 a53:=Tryz.isAgg76
 z53:=Tryz.sizeOf76
 v53:=Tryz.zeroValue76
 t75:=Tryz.underlying82
 a75:=Tryz.isAgg82
 z75:=Tryz.sizeOf82
 v75:=Tryz.zeroValue82
 t85:=Tryz.underlying83
 a85:=Tryz.isAgg83
 z85:=Tryz.sizeOf83
 v85:=Tryz.zeroValue83
 t127:=Tryz.underlying100
 a127:=Tryz.isAgg100
 z127:=Tryz.sizeOf100
 v127:=Tryz.zeroValue100
 t143:=Tryz.underlying140
 a143:=Tryz.isAgg140
 z143:=Tryz.sizeOf140
 v143:=Tryz.zeroValue140
 t145:=Tryz.underlying142
 a145:=Tryz.isAgg142
 z145:=Tryz.sizeOf142
 v145:=Tryz.zeroValue142
 t167:=Tryz.underlying106
 a167:=Tryz.isAgg106
 z167:=Tryz.sizeOf106
 v167:=Tryz.zeroValue106
 t168:=Tryz.underlying109
 a168:=Tryz.isAgg109
 z168:=Tryz.sizeOf109
 v168:=Tryz.zeroValue109
 t171:=Tryz.underlying113
 a171:=Tryz.isAgg113
 z171:=Tryz.sizeOf113
 v171:=Tryz.zeroValue113
 t173:=Tryz.underlying116
 a173:=Tryz.isAgg116
 z173:=Tryz.sizeOf116
 v173:=Tryz.zeroValue116
 t175:=Tryz.underlying107
 a175:=Tryz.isAgg107
 z175:=Tryz.sizeOf107
 v175:=Tryz.zeroValue107
 t210:=Tryz.underlying126
 a210:=Tryz.isAgg126
 z210:=Tryz.sizeOf126
 v210:=Tryz.zeroValue126
 t212:=Tryz.underlying129
 a212:=Tryz.isAgg129
 z212:=Tryz.sizeOf129
 v212:=Tryz.zeroValue129
 t213:=Tryz.underlying131
 a213:=Tryz.isAgg131
 z213:=Tryz.sizeOf131
 t232:=Tryz.underlying144
 a232:=Tryz.isAgg144
 z232:=Tryz.sizeOf144
 v232:=Tryz.zeroValue144
 t233:=Tryz.underlying145
 a233:=Tryz.isAgg145
 z233:=Tryz.sizeOf145
 v233:=Tryz.zeroValue145
 g15:=by kernel_rfl
 g16:=by kernel_rfl
 g17:=by kernel_rfl
 g18:=by kernel_rfl
 g19:=by kernel_rfl
 t80:=Tryz.underlying92
 a80:=Tryz.isAgg92
 z80:=Tryz.sizeOf92
 v80:=Tryz.zeroValue92
 i0:=by kernel_rfl
 i2:=by kernel_rfl
 i3:=by kernel_rfl
 i4:=by kernel_rfl
 i5:=by kernel_rfl
 i9:=by kernel_rfl
 i20:=by kernel_rfl
 i21:=by kernel_rfl
 i37:=by kernel_rfl
 i46:=by kernel_rfl
 i51:=by kernel_rfl
 i53:=by kernel_rfl
 i75:=by kernel_rfl
 i80:=by kernel_rfl
 i85:=by kernel_rfl
 i127:=by kernel_rfl
 i143:=by kernel_rfl
 i145:=by kernel_rfl
 i167:=by kernel_rfl
 i168:=by kernel_rfl
 i171:=by kernel_rfl
 i173:=by kernel_rfl
 i175:=by kernel_rfl
 i210:=by kernel_rfl
 i212:=by kernel_rfl
 i232:=by kernel_rfl
 i233:=by kernel_rfl
 m15:=by kernel_rfl
 m16:=by kernel_rfl
 m17:=by kernel_rfl
 m18:=by kernel_rfl
 m19:=by kernel_rfl
 c0:=by kernel_rfl
 c2:=by kernel_rfl
 c3:=by kernel_rfl
 c4:=by kernel_rfl
 c5:=by kernel_rfl
 c9:=by kernel_rfl
 c20:=by kernel_rfl
 c21:=by kernel_rfl
 c37:=by kernel_rfl
 c46:=by kernel_rfl
 c51:=by kernel_rfl
 c53:=by kernel_rfl
 c75:=by kernel_rfl
 c80:=by kernel_rfl
 c85:=by kernel_rfl
 c127:=by kernel_rfl
 c143:=by kernel_rfl
 c145:=by kernel_rfl
 c167:=by kernel_rfl
 c168:=by kernel_rfl
 c171:=by kernel_rfl
 c173:=by kernel_rfl
 c175:=by kernel_rfl
 c210:=by kernel_rfl
 c212:=by kernel_rfl
 c213:=by kernel_rfl
 c232:=by kernel_rfl
 c233:=by kernel_rfl }
open Go.RowKit in
theorem Tryz.strconv_ParseInt_10_at64_ok (s:ByteArray) (hmax:s.size≤9223372036854775806) (v:Int) (h:Lib.parseIntB 64 s.data.toList=.ok v) (w:World) :
  Calls Tryz.prog 51 #[.string s,.int .i64 10,.int .i64 64] w fun e w'=>e=.returned (.tuple #[.int .i64 v,.nilIface])∧(w'=w∨∃ t,w'=Lib.bytesWorld w 5 t):=Any.strconv_ParseInt_10_at64_ok Tryz.laysC174 s hmax v h w
open Go.RowKit in
theorem Tryz.strconv_ParseInt_10_at64_syntax_var (s : ByteArray) (hlim : s.size ≤ 281474976710656) (h : Lib.parseIntB 64 s.data.toList = .«syntax») (tp : TypeId) (p : Value) (w : World) (hvar : w.var? Tryz.prog "strconv.ErrSyntax" = some #[.iface tp p]) :
  Calls Tryz.prog 51 #[.string s,.int .i64 10,.int .i64 64] w fun e w'=>∃ N,e=.returned (.tuple #[.int .i64 (0),.iface 109 (.pointer (some ⟨N,0,none⟩))])∧w.heap.size≤N∧w'.heap[N]?=some (.cells #[.string ⟨#[80,97,114,115,101,73,110,116]⟩,.string s,.iface tp p] 126 (0,0))∧Below w.heap.size w w':=Any.strconv_ParseInt_10_at64_syntax_var Tryz.laysC174 s hlim h tp p w hvar
open Go.RowKit in
theorem Tryz.strconv_ParseInt_10_at64_range_var (s : ByteArray) (hlim : s.size ≤ 281474976710656) (h : Lib.parseIntB 64 s.data.toList = .range) (tp : TypeId) (p : Value) (w : World) (hvar : w.var? Tryz.prog "strconv.ErrRange" = some #[.iface tp p]) :
  Calls Tryz.prog 51 #[.string s,.int .i64 10,.int .i64 64] w fun e w'=>∃ N,e=.returned (.tuple #[.int .i64 (Lib.intSat 64 s.data.toList),.iface 109 (.pointer (some ⟨N,0,none⟩))])∧w.heap.size≤N∧w'.heap[N]?=some (.cells #[.string ⟨#[80,97,114,115,101,73,110,116]⟩,.string s,.iface tp p] 126 (0,0))∧Below w.heap.size w w':=Any.strconv_ParseInt_10_at64_range_var Tryz.laysC174 s hlim h tp p w hvar
def Tryz.lays146_ren:Go.Shelf.Ren:=⟨fun|146=>30|221=>50|268=>60|138=>61|143=>62|195=>68|197=>69|218=>70|219=>71|260=>83|217=>84|225=>85|224=>86|267=>87|266=>98|314=>99|n=>n,fun|9=>9|31=>59|3=>3|4=>4|0=>0|105=>103|21=>21|5=>5|46=>101|119=>134|139=>137|138=>136|146=>138|51=>130|n=>n,fun|1=>0|3=>4|4=>5|n=>n⟩
theorem Tryz.lays146:Go.Proofs.Lays.n146 Tryz.prog Tryz.lays146_ren:={
 mixed:=by kernel_rfl
 f138:=Tryz.func61.trans (congrArg some (by kernel_rfl))
 f143:=Tryz.func62.trans (congrArg some (by kernel_rfl))
 f146:=Tryz.func30.trans (congrArg some (by kernel_rfl))
 f195:=Tryz.func68.trans (congrArg some (by kernel_rfl))
 f197:=Tryz.func69.trans (congrArg some (by kernel_rfl))
 f217:=Tryz.func84.trans (congrArg some (by kernel_rfl))
 f218:=Tryz.func70.trans (congrArg some (by kernel_rfl))
 f219:=Tryz.func71.trans (congrArg some (by kernel_rfl))
 f221:=Tryz.func50.trans (congrArg some (by kernel_rfl))
 f224:=Tryz.func86.trans (congrArg some (by kernel_rfl))
 f225:=Tryz.func85.trans (congrArg some (by kernel_rfl))
 f260:=Tryz.func83.trans (congrArg some (by kernel_rfl))
 f266:=Tryz.func98.trans (congrArg some (by kernel_rfl))
 f267:=Tryz.func87.trans (congrArg some (by kernel_rfl))
 f268:=Tryz.func60.trans (congrArg some (by kernel_rfl))
 f314:=Tryz.func99.trans (congrArg some (by kernel_rfl))
 t0:=Tryz.underlying0
 a0:=Tryz.isAgg0
 z0:=Tryz.sizeOf0
 v0:=Tryz.zeroValue0
 t3:=Tryz.underlying3
 a3:=Tryz.isAgg3
 z3:=Tryz.sizeOf3
 v3:=Tryz.zeroValue3
 t4:=Tryz.underlying4
 a4:=Tryz.isAgg4
 z4:=Tryz.sizeOf4
 v4:=Tryz.zeroValue4
 t5:=Tryz.underlying5
 a5:=Tryz.isAgg5
 z5:=Tryz.sizeOf5
 v5:=Tryz.zeroValue5
 t9:=Tryz.underlying9
 a9:=Tryz.isAgg9
 z9:=Tryz.sizeOf9
 v9:=Tryz.zeroValue9
 t21:=Tryz.underlying21
 a21:=Tryz.isAgg21
 z21:=Tryz.sizeOf21
 v21:=Tryz.zeroValue21
 t31:=Tryz.underlying59
 a31:=Tryz.isAgg59
 z31:=Tryz.sizeOf59
 v31:=Tryz.zeroValue59
 t46:=Tryz.underlying101
 a46:=Tryz.isAgg101
 z46:=Tryz.sizeOf101
 v46:=Tryz.zeroValue101
 t51:=Tryz.underlying130
 a51:=Tryz.isAgg130
 z51:=Tryz.sizeOf130
 v51:=Tryz.zeroValue130
 t105:=Tryz.underlying103
 a105:=Tryz.isAgg103
 z105:=Tryz.sizeOf103
 v105:=Tryz.zeroValue103
 t119:=Tryz.underlying134
 a119:=Tryz.isAgg134
 z119:=Tryz.sizeOf134
 t138:=Tryz.underlying136
 a138:=Tryz.isAgg136
 z138:=Tryz.sizeOf136
 v138:=Tryz.zeroValue136
 t139:=Tryz.underlying137
 a139:=Tryz.isAgg137
 z139:=Tryz.sizeOf137
 v139:=Tryz.zeroValue137
 t146:=Tryz.underlying138
 a146:=Tryz.isAgg138
 z146:=Tryz.sizeOf138
 v146:=Tryz.zeroValue138
 g1:=by kernel_rfl
 g3:=by kernel_rfl
 g4:=by kernel_rfl }
open Go.RowKit Go.Lib in
theorem Tryz.strings_Split (s sep:ByteArray) (m:Int) (w:World) (hs:s.size < 4294967281) (hm:w.cell? ⟨0,0,none⟩=some (.int .i64 m)) (h1:1≤sep.size) :
  Calls Tryz.prog 30 #[.string s,.string sep] w fun e w' =>
   e=.returned (.slice (some ⟨w.heap.size,0,none⟩) (Lib.countB s sep + 1) (Lib.countB s sep + 1))∧w'=w.alloc (.cells ((Lib.splitB sep 0 (Lib.countB s sep) s).map Value.string).toArray 9):=Any.strings_Split Tryz.lays146 (by kernel_rfl) s sep m w hs hm h1
def Tryz.laysM146_ren:Go.Shelf.Ren:=⟨fun|146=>30|221=>50|268=>60|138=>61|143=>62|195=>68|197=>69|218=>70|219=>71|260=>83|217=>84|225=>85|224=>86|267=>87|266=>98|314=>99|n=>n,fun|9=>9|31=>59|3=>3|4=>4|0=>0|105=>103|21=>21|5=>5|46=>101|119=>134|139=>137|138=>136|146=>138|51=>130|n=>n,fun|1=>0|3=>4|4=>5|n=>n⟩
theorem Tryz.laysM146:Go.Proofs.LaysM.n146 Tryz.prog Tryz.laysM146_ren:={
 mixed:=by kernel_rfl
 f138:=Tryz.func61.trans (congrArg some (by kernel_rfl))
 f143:=Tryz.func62.trans (congrArg some (by kernel_rfl))
 f146:=Tryz.func30.trans (congrArg some (by kernel_rfl))
 f195:=Tryz.func68.trans (congrArg some (by kernel_rfl))
 f197:=Tryz.func69.trans (congrArg some (by kernel_rfl))
 f217:=Tryz.func84.trans (congrArg some (by kernel_rfl))
 f218:=Tryz.func70.trans (congrArg some (by kernel_rfl))
 f219:=Tryz.func71.trans (congrArg some (by kernel_rfl))
 f221:=Tryz.func50.trans (congrArg some (by kernel_rfl))
 f224:=Tryz.func86.trans (congrArg some (by kernel_rfl))
 f225:=Tryz.func85.trans (congrArg some (by kernel_rfl))
 f260:=Tryz.func83.trans (congrArg some (by kernel_rfl))
 f266:=Tryz.func98.trans (congrArg some (by kernel_rfl))
 f267:=Tryz.func87.trans (congrArg some (by kernel_rfl))
 f268:=Tryz.func60.trans (congrArg some (by kernel_rfl))
 f314:=Tryz.func99.trans (congrArg some (by kernel_rfl))
 t0:=Tryz.underlying0
 a0:=Tryz.isAgg0
 z0:=Tryz.sizeOf0
 v0:=Tryz.zeroValue0
 t3:=Tryz.underlying3
 a3:=Tryz.isAgg3
 z3:=Tryz.sizeOf3
 v3:=Tryz.zeroValue3
 t4:=Tryz.underlying4
 a4:=Tryz.isAgg4
 z4:=Tryz.sizeOf4
 v4:=Tryz.zeroValue4
 t5:=Tryz.underlying5
 a5:=Tryz.isAgg5
 z5:=Tryz.sizeOf5
 v5:=Tryz.zeroValue5
 t9:=Tryz.underlying9
 a9:=Tryz.isAgg9
 z9:=Tryz.sizeOf9
 v9:=Tryz.zeroValue9
 t21:=Tryz.underlying21
 a21:=Tryz.isAgg21
 z21:=Tryz.sizeOf21
 v21:=Tryz.zeroValue21
 t31:=Tryz.underlying59
 a31:=Tryz.isAgg59
 z31:=Tryz.sizeOf59
 v31:=Tryz.zeroValue59
 t46:=Tryz.underlying101
 a46:=Tryz.isAgg101
 z46:=Tryz.sizeOf101
 v46:=Tryz.zeroValue101
 t51:=Tryz.underlying130
 a51:=Tryz.isAgg130
 z51:=Tryz.sizeOf130
 v51:=Tryz.zeroValue130
 t105:=Tryz.underlying103
 a105:=Tryz.isAgg103
 z105:=Tryz.sizeOf103
 v105:=Tryz.zeroValue103
 t119:=Tryz.underlying134
 a119:=Tryz.isAgg134
 z119:=Tryz.sizeOf134
 t138:=Tryz.underlying136
 a138:=Tryz.isAgg136
 z138:=Tryz.sizeOf136
 v138:=Tryz.zeroValue136
 t139:=Tryz.underlying137
 a139:=Tryz.isAgg137
 z139:=Tryz.sizeOf137
 v139:=Tryz.zeroValue137
 t146:=Tryz.underlying138
 a146:=Tryz.isAgg138
 z146:=Tryz.sizeOf138
 v146:=Tryz.zeroValue138
 g1:=by kernel_rfl
 g3:=by kernel_rfl
 g4:=by kernel_rfl
 i0:=by kernel_rfl
 i3:=by kernel_rfl
 i4:=by kernel_rfl
 i5:=by kernel_rfl
 i9:=by kernel_rfl
 i21:=by kernel_rfl
 i31:=by kernel_rfl
 i46:=by kernel_rfl
 i51:=by kernel_rfl
 i105:=by kernel_rfl
 i138:=by kernel_rfl
 i139:=by kernel_rfl
 i146:=by kernel_rfl
 m1:=by kernel_rfl
 s1_3:=fun w h=>Go.Proofs.cell_of_shapedOpen_int (zero:=#[.int .i64 0]) (t:=3) h (of_decide_eq_true (by kernel_rfl)) (by kernel_rfl) rfl (by kernel_rfl) (by kernel_rfl) Tryz.underlying3
 m3:=by kernel_rfl
 m4:=by kernel_rfl }
end Go.Proofs
end
section
namespace Go.Proofs.YtcoepebmmgcplabGreatDoor.G
open Go.RowKit Go.Proofs.YtcoepebmmgcplabGreatDoorW.PrintWords Go.Proofs.YtcoepebmmgcplabGreatDoorW.PrintLast Go.Proofs.YtcoepebmmgcplabGreatDoorW.PrintMore
attribute [local go_sem] max2_int min2_int max_two min_two max_three min_three max_four min_four
set_option linter.unusedVariables false
set_option linter.unusedSimpArgs false
def impl_decimal.f (a0:Int):Option ByteArray:=if -9223372036854775808≤a0 then (if a0≤9223372036854775807 then some ⟨(Lib.itoa a0).toArray⟩ else none) else none
theorem impl_decimal.calls (a0:Int) (r:ByteArray) (w:World) (henv:Env w) (h:impl_decimal.f a0=some r) :
  Calls Tryz.prog 32 #[.int .i64 a0] w fun e w'=>e=.returned (.string r)∧Below w.heap.size w w':=by
 unfold impl_decimal.f at h
 split at h
 ·split at h
  ·rename_i h0 h1
   obtain rfl:=Option.some.inj h;have HT:=(Env_here henv).pow
   have c:=fun W ht=>Tryz.strconv_FormatInt_10 a0 h0 h1 W ht
   clear h henv
   go_enter Tryz.func32,Tryz.ntmps32
   go_wp2_with (go_at_call 52;refine (c _ HT).mono ?_;rintro e w' ⟨rfl,k,os,rfl⟩)
   go_ret
   exact ⟨rfl,Lib.below_grow _ _ (Nat.le_refl _) k os⟩
  ·cases h
 ·cases h
def strings_Join.f (l0:List ByteArray) (a1:ByteArray):Option ByteArray:=if l0.length≤140737488355328 then (if (Lib.join (l0.map (·.data.toList)) a1.data.toList).length≤140737488355328 then some ⟨(Lib.join (l0.map (·.data.toList)) a1.data.toList).toArray⟩ else none) else none
theorem strings_Join.calls (A0:Option Addr) (c0:Nat) (l0:List ByteArray) (a1:ByteArray) (r:ByteArray) (w:World) (hr0:Kd.C Kd.string w A0 l0.length l0) (hc0:l0.length≤c0) (h:strings_Join.f l0 a1=some r) :
  Calls Tryz.prog 33 #[.slice A0 l0.length c0,.string a1] w fun e w'=>e=.returned (.string r)∧Below w.heap.size w w':=by
 unfold strings_Join.f at h
 split at h
 ·split at h
  ·rename_i h0 h1
   obtain rfl:=Option.some.inj h
   by_cases hl:l0.length=0
   ·obtain rfl:=List.eq_nil_of_length_eq_zero hl
    exact (Tryz.strings_Join_none A0 c0 a1 w).mono fun e w' ⟨he,hw⟩=>⟨he,hw ▸ Below.refl _ _⟩
   ·obtain ⟨ad,rfl,hx⟩:=Kd.at_string hr0 0 (by omega) (by omega)
    have hsp:ad.spot=none:=by
     rw [show (0:Int).toNat=0 from rfl,Addr.add_zero'] at hx
     unfold World.cell? at hx
     split at hx
     ·split at hx
      ·cases hx
      ·rename_i hs
       cases e:ad.spot with
       | none=>rfl
       | some s=>rw [e] at hs;exact absurd rfl hs
     ·cases hx
    obtain ⟨bk,o,sp⟩:=ad;obtain rfl:sp=none:=hsp
    refine (Tryz.strings_Join bk o c0 l0 a1 w (fun j x hj=>?_) ?_ h0 hc0 h1).mono fun e w' ⟨he,hw⟩=>⟨he,hw⟩
    ·have hjl:j < l0.length:=(List.getElem?_eq_some_iff.1 hj).1;obtain ⟨ad',e,hx'⟩:=Kd.at_string hr0 (j:Int) (by omega) (by omega);obtain rfl:=Option.some.inj e
     have hrd:rdOf ByteArray.empty l0 (j:Int)=x:=by
      rw [show rdOf ByteArray.empty l0 (j:Int)=l0.getD j ByteArray.empty from rfl,List.getD_eq_getElem?_getD,hj];rfl
     rw [hrd,Int.toNat_natCast] at hx'
     have:Addr.add ⟨bk,o,none⟩ j=⟨bk,o + j,none⟩:=by
      unfold Addr.add
      split
      ·rename_i hj0
       subst hj0;rfl
      ·rfl
     rwa [this] at hx'
    ·exact World.block_lt_of_cell? w _ hx
  ·cases h
 ·cases h
def impl_LineText.l0:Nat→List ByteArray→List (S52)→Int→Int→Option (ByteArray)
 | 0,_,_,_,_=>none
 | k + 1,x3,x10,x11,x12=>if x12 < x11 then (if 0≤x12 then (if x12 < (x10.length:Int) then ((impl_decimal.f (wrap64 ((rd_T52 x10 x12).f0))).bind fun t107=>(if t107.size + 1≤9223372036854775807 then ((impl_decimal.f (wrap64 ((rd_T52 x10 x12).f1))).bind fun t108=>(if (t107 ++ (⟨#[47]⟩:ByteArray)).size + t108.size≤9223372036854775807 then (if ((t107 ++ (⟨#[47]⟩:ByteArray)) ++ t108).size + 1≤9223372036854775807 then ((impl_decimal.f (wrap64 ((rd_T52 x10 x12).f2))).bind fun t109=>(if (((t107 ++ (⟨#[47]⟩:ByteArray)) ++ t108) ++ (⟨#[47]⟩:ByteArray)).size + t109.size≤9223372036854775807 then (if x3.length < 8796093022208 then (impl_LineText.l0 k (x3 ++ [(((t107 ++ (⟨#[47]⟩:ByteArray)) ++ t108) ++ (⟨#[47]⟩:ByteArray)) ++ t109]) x10 x11 (wrap64 (x12 + 1))) else (none)) else (none))) else (none)) else (none))) else (none))) else (none)) else (none)) else ((strings_Join.f x3 (⟨#[32]⟩:ByteArray)).bind fun t113=>(some t113))
def impl_LineText.f (k:Nat) (l0:List (S52)):Option (ByteArray):=(impl_ValidLine.f l0).bind fun t101=>(if t101=true then (impl_LineText.l0 k (([]:List ByteArray)) l0 (l0.length:Int) 0) else (some (⟨#[]⟩:ByteArray)))
def impl_LineText.T7:Bool × List (List Nat × List Nat):=(true,[([],[]),([],[]),([1],[1]),([2],[2]),([3],[3]),([4],[4]),([],[]),([6],[6]),([7],[7]),([8,4],[8]),([5,9],[5,9]),([10],[10]),([],[]),([12],[12]),([13],[13]),([14,9],[14]),([11,15],[11,15]),([16],[16]),([0,17,15],[0,17]),([18,18,0,1,2,3,4,5,6,7,8,9,10,11,12,13,14,15,16,17,18],[0,18])])
def impl_LineText.B7:List Nat:=[0,0,2,6,14,30,0,64,192,478,1022,2046,0,4096,12288,29662,65534,131070,262143,524287]
theorem impl_LineText.tab7:rtab .any (opsOf Tryz.f9 7)=impl_LineText.T7:=by kernel_rfl
theorem impl_LineText.bits7:waitsOk impl_LineText.T7.2 impl_LineText.B7=true:=by kernel_rfl
set_option maxHeartbeats 8000000 in
set_option maxRecDepth 100000 in
theorem impl_LineText.calls (k:Nat) (A0:Option Addr) (c0:Nat) (l0:List (S52)) (r:ByteArray) (w:World) (hr0:Kd.C k52 w A0 l0.length l0) (hc0:l0.length≤c0) (henv:Env w) (h:impl_LineText.f k l0=some r) :
  Calls Tryz.prog 9 #[.slice A0 l0.length c0] w fun e w'=>e=.returned (.string r)∧Below w.heap.size w w':=by
 have hu52:=Tryz.underlying52;have HR0:=am hr0;have HC0:=am hc0;clear hr0 hc0;have HENV:=am henv;clear henv;have HB:=am (Below.refl w.heap.size w);have H:((impl_ValidLine.f l0).bind fun t101=>(if t101=true then (impl_LineText.l0 k (([]:List ByteArray)) l0 (l0.length:Int) 0) else (some (⟨#[]⟩:ByteArray))))=some r:=h;clear h;replace H:=Option.bind_eq_some_iff.mp H;obtain ⟨t101,A20,H⟩:=H;replace H:(if t101=true then (impl_LineText.l0 k (([]:List ByteArray)) l0 (l0.length:Int) 0) else (some (⟨#[]⟩:ByteArray)))=some r:=H;have A2:=am A20;clear A20
 by_cases c3:t101=true
 ·subst c3
  have H1:(impl_LineText.l0 k (([]:List ByteArray)) l0 (l0.length:Int) 0)=some r:=by rw [if_pos rfl] at H;exact H
  clear H;have H:=H1;clear H1;obtain ⟨y102,hy102⟩:∃ y_:List ByteArray,y_=(([]:List ByteArray)):=⟨_,rfl⟩
  replace H:(impl_LineText.l0 k y102 l0 (l0.length:Int) 0)=some r:=by first|(rw [hy102];with_reducible exact H)|(have H2_:=(Option.bind_some _ _).symm.trans H;rw [hy102];with_reducible exact H2_)|(have H2_:=(Option.bind_some _ _).symm.trans H;with_reducible exact H2_)|with_reducible exact H|(rw [hy102];exact H)|exact H
  have Ny102:=am hy102;clear hy102;have H':=am H;clear H
  go_enter Tryz.func9,Tryz.ntmps9
  go_wp2_with (first|((with_reducible refine gate_callee (f:=19) rfl ?_);refine goesL_ (some 7) rfl rfl Tryz.func19 zq19 rfl #[.slice A0 l0.length c0] rfl zq1 ?_;(with_reducible refine (impl_ValidLine.calls _ _ l0 true _ ?side1 ?side2 A2.out).mono ?_);(case side1=>exact zq4);(case side2=>exact HC0.out);rintro e w4 ⟨rfl,hb⟩;refine ⟨_,rfl,?_⟩;have n0_:=am (below_step zq0 hb);clear HB;have HB:=n0_;clear n0_;(try clear hb);(try clear hb2);(try clear hk);(try clear hi))|((with_reducible refine gate_dst (N:=9) rfl ?_);refine Kd.R_lit Kd.string _ 9 ?hg (N:=9) ?hd (xs:=([]:List ByteArray)) (inner:=[]) (ok:=fun _=>True) (okp:=fun _=>True) ?hr ?hp (fun _ hk=>hk) trivial (Below.refl _ _) (Nat.le_refl _) (by simp) ?_;(case hd=>rfl);(case hg=>rfl);(case hr=>exact zq12);(case hp=>exact (Reps.none _ _));intro v103 w5 ho6 hb hg_ hnew_;clear hg_ hnew_;(first|rw [← Ny102.out] at ho6|(simp only [Int.reduceToNat] at ho6;rw [← Ny102.out] at ho6));have n0_:=am (Kd.R_lower ho6 (below_size zq0));have n1_:=am (below_step zq0 hb);clear HB;have HO104:=n0_;have HB:=n1_;clear n0_ n1_;clear hb ho6))
  go_loopg [3,12] k (fun kq v3 v12 w'=>∃ (x3_1:List ByteArray) (x12_1:Int),v12=.int .i64 x12_1∧Aside0 (impl_LineText.l0 kq x3_1 l0 (l0.length:Int) x12_1=some r)∧Aside0 (kq≤k)∧Aside0 (Kd.R Kd.string 9 w' w.heap.size (fun _=>True) v3 x3_1)∧Aside0 (Below w.heap.size w w'))
  case atStart=>exact ⟨(y102),(0),zq3,H',⟨Nat.le_refl _⟩,⟨by (with_reducible repeat (first|apply Kd.R_alloc|apply Kd.R_drewN|apply Kd.R_drew));exact HO104.out⟩,⟨by repeat (first|(with_reducible first|exact HB.out|apply below_alloc|apply pw_below_drewN|apply below_drew1)|exact HB.out)⟩⟩
  case round =>
   clear H';(try clear c1);(try clear p2);(try clear c3);obtain ⟨x3_1,x12_1,rfl,HA,HK1,HO_3,HB⟩:=hrel
   cases gk with
   | zero=>exact absurd HA.out (by simp [impl_LineText.l0])
   | succ k1 =>
    have H:=HA.out;clear HA;simp only [impl_LineText.l0] at H
    by_cases c7:x12_1 < (l0.length:Int)
    ·rw [if_pos c7] at H;have c7b0:=decide_eq_true c7;clear c7
     by_cases c8:0≤x12_1
     ·rw [if_pos c8] at H;have c8b0:=decide_eq_true c8;clear c8
      by_cases c9:x12_1 < (l0.length:Int)
      ·rw [if_pos c9] at H;have c9b0:=decide_eq_true c9;clear c9;replace H:=Option.bind_eq_some_iff.mp H;obtain ⟨t107,A100,H⟩:=H;replace H:(if t107.size + 1≤9223372036854775807 then ((impl_decimal.f (wrap64 ((rd_T52 l0 x12_1).f1))).bind fun t108=>(if (t107 ++ (⟨#[47]⟩:ByteArray)).size + t108.size≤9223372036854775807 then (if ((t107 ++ (⟨#[47]⟩:ByteArray)) ++ t108).size + 1≤9223372036854775807 then ((impl_decimal.f (wrap64 ((rd_T52 l0 x12_1).f2))).bind fun t109=>(if (((t107 ++ (⟨#[47]⟩:ByteArray)) ++ t108) ++ (⟨#[47]⟩:ByteArray)).size + t109.size≤9223372036854775807 then (if x3_1.length < 8796093022208 then (impl_LineText.l0 k1 (x3_1 ++ [(((t107 ++ (⟨#[47]⟩:ByteArray)) ++ t108) ++ (⟨#[47]⟩:ByteArray)) ++ t109]) l0 (l0.length:Int) (wrap64 (x12_1 + 1))) else (none)) else (none))) else (none)) else (none))) else (none))=some r:=H;have A10:=am A100;clear A100
       by_cases c11:t107.size + 1≤9223372036854775807
       ·rw [if_pos c11] at H;have c11b0:=eq_true c11;have c11b1:=decide_eq_true c11
        try have c11b2:(9223372036854775807 < t107.size + 1)=False:=eq_false (Nat.not_lt.2 c11)
        replace H:=Option.bind_eq_some_iff.mp H;obtain ⟨t108,A120,H⟩:=H;replace H:(if (t107 ++ (⟨#[47]⟩:ByteArray)).size + t108.size≤9223372036854775807 then (if ((t107 ++ (⟨#[47]⟩:ByteArray)) ++ t108).size + 1≤9223372036854775807 then ((impl_decimal.f (wrap64 ((rd_T52 l0 x12_1).f2))).bind fun t109=>(if (((t107 ++ (⟨#[47]⟩:ByteArray)) ++ t108) ++ (⟨#[47]⟩:ByteArray)).size + t109.size≤9223372036854775807 then (if x3_1.length < 8796093022208 then (impl_LineText.l0 k1 (x3_1 ++ [(((t107 ++ (⟨#[47]⟩:ByteArray)) ++ t108) ++ (⟨#[47]⟩:ByteArray)) ++ t109]) l0 (l0.length:Int) (wrap64 (x12_1 + 1))) else (none)) else (none))) else (none)) else (none))=some r:=H;have A12:=am A120;clear A120
        by_cases c13:(t107 ++ (⟨#[47]⟩:ByteArray)).size + t108.size≤9223372036854775807
        ·rw [if_pos c13] at H;have c13b0:=eq_true c13;have c13b1:=decide_eq_true c13
         try have c13b2:(9223372036854775807 < (t107 ++ (⟨#[47]⟩:ByteArray)).size + t108.size)=False:=eq_false (Nat.not_lt.2 c13)
         have c13d0:t107.size + 1 + t108.size≤9223372036854775807:=by (have h_:=c13;simp only [ByteArray.size_append'] at h_;exact h_)
         have c13d1:=eq_true c13d0;have c13d2:decide (t107.size + 1 + t108.size≤9223372036854775807)=true:=decide_eq_true c13d0
         try have c13d3:(9223372036854775807 < t107.size + 1 + t108.size)=False:=eq_false (Nat.not_lt.2 c13d0)
         clear c13d0
         by_cases c14:((t107 ++ (⟨#[47]⟩:ByteArray)) ++ t108).size + 1≤9223372036854775807
         ·rw [if_pos c14] at H;have c14b0:=eq_true c14;have c14b1:=decide_eq_true c14
          try have c14b2:(9223372036854775807 < ((t107 ++ (⟨#[47]⟩:ByteArray)) ++ t108).size + 1)=False:=eq_false (Nat.not_lt.2 c14)
          have c14d0:t107.size + 1 + t108.size + 1≤9223372036854775807:=by (have h_:=c14;simp only [ByteArray.size_append'] at h_;exact h_)
          have c14d1:=eq_true c14d0;have c14d2:decide (t107.size + 1 + t108.size + 1≤9223372036854775807)=true:=decide_eq_true c14d0
          try have c14d3:(9223372036854775807 < t107.size + 1 + t108.size + 1)=False:=eq_false (Nat.not_lt.2 c14d0)
          clear c14d0;replace H:=Option.bind_eq_some_iff.mp H;obtain ⟨t109,A150,H⟩:=H;replace H:(if (((t107 ++ (⟨#[47]⟩:ByteArray)) ++ t108) ++ (⟨#[47]⟩:ByteArray)).size + t109.size≤9223372036854775807 then (if x3_1.length < 8796093022208 then (impl_LineText.l0 k1 (x3_1 ++ [(((t107 ++ (⟨#[47]⟩:ByteArray)) ++ t108) ++ (⟨#[47]⟩:ByteArray)) ++ t109]) l0 (l0.length:Int) (wrap64 (x12_1 + 1))) else (none)) else (none))=some r:=H;have A15:=am A150;clear A150
          by_cases c16:(((t107 ++ (⟨#[47]⟩:ByteArray)) ++ t108) ++ (⟨#[47]⟩:ByteArray)).size + t109.size≤9223372036854775807
          ·rw [if_pos c16] at H;have c16b0:=eq_true c16;have c16b1:=decide_eq_true c16
           try have c16b2:(9223372036854775807 < (((t107 ++ (⟨#[47]⟩:ByteArray)) ++ t108) ++ (⟨#[47]⟩:ByteArray)).size + t109.size)=False:=eq_false (Nat.not_lt.2 c16)
           have c16d0:t107.size + 1 + t108.size + 1 + t109.size≤9223372036854775807:=by (have h_:=c16;simp only [ByteArray.size_append'] at h_;exact h_)
           have c16d1:=eq_true c16d0;have c16d2:decide (t107.size + 1 + t108.size + 1 + t109.size≤9223372036854775807)=true:=decide_eq_true c16d0
           try have c16d3:(9223372036854775807 < t107.size + 1 + t108.size + 1 + t109.size)=False:=eq_false (Nat.not_lt.2 c16d0)
           clear c16d0
           by_cases c17:x3_1.length < 8796093022208
           ·rw [if_pos c17] at H;have LMc17:=am c17;clear c17;obtain ⟨y110,hy110⟩:∃ y_:List ByteArray,y_=(x3_1 ++ [(((t107 ++ (⟨#[47]⟩:ByteArray)) ++ t108) ++ (⟨#[47]⟩:ByteArray)) ++ t109]):=⟨_,rfl⟩
            replace H:(impl_LineText.l0 k1 y110 l0 (l0.length:Int) (wrap64 (x12_1 + 1)))=some r:=by first|(rw [hy110];with_reducible exact H)|(have H2_:=(Option.bind_some _ _).symm.trans H;rw [hy110];with_reducible exact H2_)|(have H2_:=(Option.bind_some _ _).symm.trans H;with_reducible exact H2_)|with_reducible exact H|(rw [hy110];exact H)|exact H
            have Ny110:=am hy110;clear hy110;have H':=am H;clear H;have p105:0≤(x12_1:Int):=of_decide_eq_true zq2;have q105:x12_1 < (l0.length:Int):=of_decide_eq_true zq2;obtain ⟨ad105,e105,hx105_0,hx105_1,hx105_2⟩:=at_T52 HR0.out x12_1 p105 q105;cases e105;replace hx105_0:=(HB.out.cell (World.block_lt_of_cell? w _ hx105_0)).trans hx105_0;replace hx105_1:=(HB.out.cell (World.block_lt_of_cell? w _ hx105_1)).trans hx105_1;replace hx105_2:=(HB.out.cell (World.block_lt_of_cell? w _ hx105_2)).trans hx105_2;replace p105:=eq_true p105;replace q105:=eq_true q105
            try go_wp2_with (first|((with_reducible refine gate_dst (N:=5) rfl ?_);refine box_event ?hg (N:=5) ?hd (cs:=#[.int .i8 0,.int .i8 0,.int .i8 0]) (t:=52) ?hr ?_;(case hd=>rfl);(case hg=>rfl);(case hr=>exact zq12);intro gb106 hg w18 hbox hb;have n0_:=am (Kd.R_below zq8 hb);have n1_:=am (below_step zq0 hb);have n2_:=am (hbox);have n3_:=am ((by rw [hg];exact (below_size zq0):w.heap.size≤gb106));have n4_:=am ((by rw [hg];exact (below_size zq0):w.heap.size≤gb106));clear HO_3;clear HB;have HO_3:=n0_;have HB:=n1_;have BK106:=n2_;have GW106:=n3_;have GE106:=n4_;clear n0_ n1_ n2_ n3_ n4_;clear hb hbox hg;have hcz19_0:w18.cell? ⟨gb106,0,none⟩=some (.int .i8 0):=(blk_cell BK106.out 0).trans rfl;have hcz19_1:w18.cell? ⟨gb106,1,none⟩=some (.int .i8 0):=(blk_cell BK106.out 1).trans rfl;have hcz19_2:w18.cell? ⟨gb106,2,none⟩=some (.int .i8 0):=(blk_cell BK106.out 2).trans rfl;have hfz19_0:=blk_frozen BK106.out 0;have hfz19_1:=blk_frozen BK106.out 1;have hfz19_2:=blk_frozen BK106.out 2))
            have n0_:Aside0 (Kd.R Kd.string 9 (((w18.setCell ⟨gb106,0,none⟩ (.int .i8 ((rd_T52 l0 x12_1).f0))).setCell ⟨gb106,1,none⟩ (.int .i8 ((rd_T52 l0 x12_1).f1))).setCell ⟨gb106,2,none⟩ (.int .i8 ((rd_T52 l0 x12_1).f2))) w.heap.size (fun _=>True) u3 x3_1):=⟨by (with_reducible repeat (first|apply Kd.R_alloc|apply Kd.R_drewN|apply Kd.R_drew));exact Kd.R_mono (Kd.R_far (p:=⟨gb106,2,none⟩) (Kd.R_far (p:=⟨gb106,1,none⟩) (Kd.R_far (p:=⟨gb106,0,none⟩) (Kd.R_types HO_3.out BK106.out (by decide)) (fun _ hk=>hk.2) (.int .i8 ((rd_T52 l0 x12_1).f0))) (fun _ hk=>hk.2) (.int .i8 ((rd_T52 l0 x12_1).f1))) (fun _ hk=>hk.2) (.int .i8 ((rd_T52 l0 x12_1).f2))) (fun _ hk=>trivial)⟩;have n1_:Aside0 ((((w18.setCell ⟨gb106,0,none⟩ (.int .i8 ((rd_T52 l0 x12_1).f0))).setCell ⟨gb106,1,none⟩ (.int .i8 ((rd_T52 l0 x12_1).f1))).setCell ⟨gb106,2,none⟩ (.int .i8 ((rd_T52 l0 x12_1).f2))).heap[gb106]?=some (.cells #[.int .i8 ((rd_T52 l0 x12_1).f0),.int .i8 ((rd_T52 l0 x12_1).f1),.int .i8 ((rd_T52 l0 x12_1).f2)] 52 (0,0))):=⟨by (with_reducible repeat (first|refine blk_drewN ?_ _|refine blk_drew ?_|refine blk_alloc ?_ _));refine blk_put (cs:=#[.int .i8 ((rd_T52 l0 x12_1).f0),.int .i8 ((rd_T52 l0 x12_1).f1),.int .i8 0]) ?_ 2 _ rfl;(with_reducible repeat (first|refine blk_drewN ?_ _|refine blk_drew ?_|refine blk_alloc ?_ _));refine blk_put (cs:=#[.int .i8 ((rd_T52 l0 x12_1).f0),.int .i8 0,.int .i8 0]) ?_ 1 _ rfl;(with_reducible repeat (first|refine blk_drewN ?_ _|refine blk_drew ?_|refine blk_alloc ?_ _));refine blk_put (cs:=#[.int .i8 0,.int .i8 0,.int .i8 0]) ?_ 0 _ rfl;(with_reducible repeat (first|refine blk_drewN ?_ _|refine blk_drew ?_|refine blk_alloc ?_ _));exact BK106.out⟩;have n2_:Aside0 (Below w.heap.size w (((w18.setCell ⟨gb106,0,none⟩ (.int .i8 ((rd_T52 l0 x12_1).f0))).setCell ⟨gb106,1,none⟩ (.int .i8 ((rd_T52 l0 x12_1).f1))).setCell ⟨gb106,2,none⟩ (.int .i8 ((rd_T52 l0 x12_1).f2)))):=⟨by repeat (first|(with_reducible first|exact HB.out|apply below_alloc|apply pw_below_drewN|apply below_drew1|refine below_set ?_ GE106.out)|exact HB.out)⟩;(try clear HO_3);(try clear BK106);(try clear HB);generalize (((w18.setCell ⟨gb106,0,none⟩ (.int .i8 ((rd_T52 l0 x12_1).f0))).setCell ⟨gb106,1,none⟩ (.int .i8 ((rd_T52 l0 x12_1).f1))).setCell ⟨gb106,2,none⟩ (.int .i8 ((rd_T52 l0 x12_1).f2)))=w20 at n0_ n1_ n2_ ⊢;have HO_3:=n0_;have BK106:=n1_;have HB:=n2_;clear n0_ n1_ n2_;have n0_:=am (Kd.R_drew HO_3.out);have n1_:=am (blk_drew BK106.out);have n2_:=am (below_drew1 HB.out);clear HO_3;clear BK106;clear HB;have HO_3:=n0_;have BK106:=n1_;have HB:=n2_;clear n0_ n1_ n2_;refine start_ (n:=20) (S:=fun w'=>w'.cell? ⟨gb106,0,none⟩=some (.int .i8 ((rd_T52 l0 x12_1).f0))∧w'.cell? ⟨gb106,1,none⟩=some (.int .i8 ((rd_T52 l0 x12_1).f1))∧w'.cell? ⟨gb106,2,none⟩=some (.int .i8 ((rd_T52 l0 x12_1).f2))) (ds:=[]) #[false,false,false,false,false,false,false,false,false,false,false,false,false,false,false,false,false,false,false,false] zq19 rfl rfl ⟨(blk_cell BK106.out 0).trans rfl,(blk_cell BK106.out 1).trans rfl,(blk_cell BK106.out 2).trans rfl⟩ (fun hHeld=>?_);refine with_tabW impl_LineText.tab7 impl_LineText.bits7 (fun HT_ HW_=>?_);generalize w20.drew=w21 at HO_3 BK106 HB hHeld ⊢;refine pw_ 0 16 ?_;refine pw_ 1 17 ?_;refine pw_ 6 22 ?_;refine pw_ 12 28 ?_;refine tw3_ 2 18 ?_;refine pw_ 3 19 ?_;refine tw3_ 7 23 ?_;refine pw_ 8 24 ?_;refine tw3_ 13 29 ?_;refine pw_ 14 30 ?_;refine ow_ 4 20 (fun K hK=>?_);refine goes_ Tryz.func32 zq19 rfl #[.int .i64 (wrap64 ((rd_T52 l0 x12_1).f0))] (by rfl) rfl rfl zq1 ?_
            with_reducible refine (impl_decimal.calls (wrap64 ((rd_T52 l0 x12_1).f0)) t107 _ ?side1 A10.out).mono ?_
            (case side1=>exact Env_on HENV.out zq17)
            rintro e w22 ⟨rfl,hb⟩
            refine ⟨_,rfl,?_⟩;have n0_:=am (Kd.R_below zq8 hb);have n1_:=am (blk_below (g:=gb106) (o:=.cells #[.int .i8 ((rd_T52 l0 x12_1).f0),.int .i8 ((rd_T52 l0 x12_1).f1),.int .i8 ((rd_T52 l0 x12_1).f2)] 52 (0,0)) zq81 hb);have n2_:=am (below_step zq17 hb);clear HO_3;clear BK106;clear HB;have HO_3:=n0_;have BK106:=n1_;have HB:=n2_;clear n0_ n1_ n2_;(try clear hb);(try clear hb2);(try clear hk);(try clear hi);refine hK.out _ _ ⟨(blk_cell BK106.out 0).trans rfl,(blk_cell BK106.out 1).trans rfl,(blk_cell BK106.out 2).trans rfl⟩ (fun hHeld=>?_);clear hK K;refine norm_ (a':=?_) ?_ ?_;rotate_left
            ·show Act.put _ (some 20) _=_
             simp only [Act.put,List.setIfInBounds_toArray,List.set_cons_zero,List.set_cons_succ,i64_w,i32_w];rfl
            refine pw_ 5 21 ?_;refine ow_ 9 25 (fun K hK=>?_);refine goes_ Tryz.func32 zq19 rfl #[.int .i64 (wrap64 ((rd_T52 l0 x12_1).f1))] (by rfl) rfl rfl zq1 ?_
            with_reducible refine (impl_decimal.calls (wrap64 ((rd_T52 l0 x12_1).f1)) t108 _ ?side1 A12.out).mono ?_
            (case side1=>exact Env_on HENV.out zq17)
            rintro e w23 ⟨rfl,hb⟩
            refine ⟨_,rfl,?_⟩;have n0_:=am (Kd.R_below zq8 hb);have n1_:=am (blk_below (g:=gb106) (o:=.cells #[.int .i8 ((rd_T52 l0 x12_1).f0),.int .i8 ((rd_T52 l0 x12_1).f1),.int .i8 ((rd_T52 l0 x12_1).f2)] 52 (0,0)) zq81 hb);have n2_:=am (below_step zq17 hb);clear HO_3;clear BK106;clear HB;have HO_3:=n0_;have BK106:=n1_;have HB:=n2_;clear n0_ n1_ n2_;(try clear hb);(try clear hb2);(try clear hk);(try clear hi);refine hK.out _ _ ⟨(blk_cell BK106.out 0).trans rfl,(blk_cell BK106.out 1).trans rfl,(blk_cell BK106.out 2).trans rfl⟩ (fun hHeld=>?_);clear hK K;refine norm_ (a':=?_) ?_ ?_;rotate_left
            ·show Act.put _ (some 25) _=_
             simp only [Act.put,List.setIfInBounds_toArray,List.set_cons_zero,List.set_cons_succ,i64_w,i32_w];rfl
            refine pw_ 10 26 ?_;refine pw_ 11 27 ?_;refine ow_ 15 31 (fun K hK=>?_);refine goes_ Tryz.func32 zq19 rfl #[.int .i64 (wrap64 ((rd_T52 l0 x12_1).f2))] (by rfl) rfl rfl zq1 ?_
            with_reducible refine (impl_decimal.calls (wrap64 ((rd_T52 l0 x12_1).f2)) t109 _ ?side1 A15.out).mono ?_
            (case side1=>exact Env_on HENV.out zq17)
            rintro e w24 ⟨rfl,hb⟩
            refine ⟨_,rfl,?_⟩;have n0_:=am (Kd.R_below zq8 hb);have n1_:=am (blk_below (g:=gb106) (o:=.cells #[.int .i8 ((rd_T52 l0 x12_1).f0),.int .i8 ((rd_T52 l0 x12_1).f1),.int .i8 ((rd_T52 l0 x12_1).f2)] 52 (0,0)) zq81 hb);have n2_:=am (below_step zq17 hb);clear HO_3;clear BK106;clear HB;have HO_3:=n0_;have BK106:=n1_;have HB:=n2_;clear n0_ n1_ n2_;(try clear hb);(try clear hb2);(try clear hk);(try clear hi);refine hK.out _ _ ⟨(blk_cell BK106.out 0).trans rfl,(blk_cell BK106.out 1).trans rfl,(blk_cell BK106.out 2).trans rfl⟩ (fun hHeld=>?_);clear hK K;refine norm_ (a':=?_) ?_ ?_;rotate_left
            ·show Act.put _ (some 31) _=_
             simp only [Act.put,List.setIfInBounds_toArray,List.set_cons_zero,List.set_cons_succ,i64_w,i32_w];rfl
            refine pw_ 16 32 ?_;refine ow_ 17 33 (fun K hK=>?_);refine value_ (w1:=?_) (v:=?_) (by rfl) rfl ?_ ?_;rotate_left 2
            ·go_simp
             constructor
             ·rfl
             ·rfl
            refine hK.out _ _ ⟨(blk_cell (blk_alloc BK106.out _) 0).trans rfl,(blk_cell (blk_alloc BK106.out _) 1).trans rfl,(blk_cell (blk_alloc BK106.out _) 2).trans rfl⟩ (fun hHeld=>?_);clear hK K;refine norm_ (a':=?_) ?_ ?_;rotate_left
            ·show Act.put _ (some 33) _=_
             simp only [Act.put,List.setIfInBounds_toArray,List.set_cons_zero,List.set_cons_succ,i64_w,i32_w];rfl
            refine ow_ 18 34 (fun K hK=>?_);refine Kd.R_append_step Kd.string (w0:=w) w.heap.size (by rfl) (.tmp 16) (.tmp 33) 59 9 (.string ⟨#[]⟩) 16 rfl Tryz.underlying59 info9 rfl (by decide) (by omega) u3 x3_1 ((((t107 ++ (⟨#[47]⟩:ByteArray)) ++ t108) ++ (⟨#[47]⟩:ByteArray)) ++ t109) [.string ((((t107 ++ (⟨#[47]⟩:ByteArray)) ++ t108) ++ (⟨#[47]⟩:ByteArray)) ++ t109)] (fun _=>True) (fun _=>False) rfl rfl ?aP (fun _ hk=>hk.elim) ?aF ?aO ?aB ?aS ?aL ?_;(case aP=>exact rfl);(case aB=>exact zq17);(case aF=>exact (fun _ _=>trivial));(case aO=>exact zq8);(case aS=>exact (below_size zq17));(case aL=>have:=LMc17.out;omega);intro v111 w25 ho hb hg hat;rw [← Ny110.out] at ho;have n0_:=am (blk_grown (g:=gb106) (o:=.cells #[.int .i8 ((rd_T52 l0 x12_1).f0),.int .i8 ((rd_T52 l0 x12_1).f1),.int .i8 ((rd_T52 l0 x12_1).f2)] 52 (0,0)) zq81 hg (Kd.R_ne HO_3.out BK106.out (by decide)));have n1_:=am (hb);have n2_:=am (ho);clear BK106;clear HB;clear HO_3;have BK106:=n0_;have HB:=n1_;have HO112:=n2_;clear n0_ n1_ n2_;clear ho hb hg hat;refine hK.out _ _ ⟨(blk_cell BK106.out 0).trans rfl,(blk_cell BK106.out 1).trans rfl,(blk_cell BK106.out 2).trans rfl⟩ (fun hHeld=>?_);clear hK K;refine norm_ (a':=?_) ?_ ?_;rotate_left
            ·show Act.put _ (some 34) _=_
             simp only [Act.put,List.setIfInBounds_toArray,List.set_cons_zero,List.set_cons_succ,i64_w,i32_w];rfl
            refine pw_ 19 3 ?_;refine done_ (done_of HT_.out zq19) ?_;(try go_wp2)
            go_roundg k1
            case measure=>have:=HK1.out;omega
            case rel=>exact ⟨(y110),(wrap64 (x12_1 + 1)),zq3,H',⟨by have:=HK1.out;omega⟩,⟨by (with_reducible repeat (first|apply Kd.R_alloc|apply Kd.R_drewN|apply Kd.R_drew));exact HO112.out⟩,⟨by repeat (first|(with_reducible first|exact HB.out|apply below_alloc|apply pw_below_drewN|apply below_drew1|refine below_set ?_ GE106.out)|exact HB.out)⟩⟩
           ·rw [if_neg c17] at H;exact absurd H (by simp)
          ·rw [if_neg c16] at H;exact absurd H (by simp)
         ·rw [if_neg c14] at H;exact absurd H (by simp)
        ·rw [if_neg c13] at H;exact absurd H (by simp)
       ·rw [if_neg c11] at H;exact absurd H (by simp)
      ·rw [if_neg c9] at H;exact absurd H (by simp)
     ·rw [if_neg c8] at H;exact absurd H (by simp)
    ·rw [if_neg c7] at H;have c7b0:=decide_eq_false c7;clear c7;replace H:=Option.bind_eq_some_iff.mp H;obtain ⟨t113,A260,H⟩:=H;replace H:(some t113)=some r:=H;have A26:=am A260;clear A260;obtain rfl:=Option.some.inj H;obtain ⟨Ao27,co27,eo27⟩:=Kd.R_slice HO_3.out;subst eo27
     go_wp2_with (first|((with_reducible refine gate_callee (f:=33) rfl ?_);refine goesL_ (some 37) rfl rfl Tryz.func33 zq19 rfl #[.slice Ao27 x3_1.length co27,.string (⟨#[32]⟩:ByteArray)] rfl zq1 ?_;(with_reducible refine (strings_Join.calls _ _ x3_1 (⟨#[32]⟩:ByteArray) t113 _ ?side1 ?side2 A26.out).mono ?_);(case side1=>repeat (first|exact (Kd.R_reads' HO_3.out).2.2|(with_reducible refine Kd.C_alloc ?_ _)|(with_reducible refine Kd.C_drewN ?_ _)|(with_reducible refine Kd.C_drew ?_)));(case side2=>exact (Kd.R_reads' HO_3.out).2.1);rintro e w28 ⟨rfl,hb⟩;refine ⟨_,rfl,?_⟩;have n0_:=am (Kd.R_below zq8 hb);have n1_:=am (below_step zq0 hb);clear HO_3;clear HB;have HO_3:=n0_;have HB:=n1_;clear n0_ n1_;(try clear hb);(try clear hb2);(try clear hk);(try clear hi)))
     go_ret
     exact ⟨by first|rfl|(simp [errW_none,errW_some,IntKind.wrap_i64,wrap64];done)|(simp [errW_none,errW_some] <;> rfl)|(simp [*,errW_none,errW_some] <;> rfl),by repeat (first|(with_reducible first|exact HB.out|apply below_alloc|apply pw_below_drewN|apply below_drew1)|exact HB.out)⟩
 ·replace c3:=Bool.eq_false_iff.mpr c3;subst c3
  have H1:(some (⟨#[]⟩:ByteArray))=some r:=by rw [if_neg (show ¬ (false=true) by decide)] at H;exact H
  clear H;have H:=H1;clear H1;obtain rfl:=Option.some.inj H
  go_enter Tryz.func9,Tryz.ntmps9
  go_wp2_with (first|((with_reducible refine gate_callee (f:=19) rfl ?_);refine goesL_ (some 7) rfl rfl Tryz.func19 zq19 rfl #[.slice A0 l0.length c0] rfl zq1 ?_;(with_reducible refine (impl_ValidLine.calls _ _ l0 false _ ?side1 ?side2 A2.out).mono ?_);(case side1=>exact zq4);(case side2=>exact HC0.out);rintro e w29 ⟨rfl,hb⟩;refine ⟨_,rfl,?_⟩;have n0_:=am (below_step zq0 hb);clear HB;have HB:=n0_;clear n0_;(try clear hb);(try clear hb2);(try clear hk);(try clear hi)))
  go_ret
  exact ⟨by first|rfl|(simp [errW_none,errW_some,IntKind.wrap_i64,wrap64];done)|(simp [errW_none,errW_some] <;> rfl)|(simp [*,errW_none,errW_some] <;> rfl),by repeat (first|(with_reducible first|exact HB.out|apply below_alloc|apply pw_below_drewN|apply below_drew1)|exact HB.out)⟩
def impl_number.is (a0:ByteArray) (a1:Int) (v:Int):Bool:=decide (Lib.itoa v=a0.data.toList) && (decide (0≤v) && decide (v≤a1))
def impl_number.f (a0:ByteArray) (a1:Int):Option (Int × Bool):=if a0.size≤281474976710656 then (match Lib.parseIntB 64 a0.data.toList with
 | .ok v=>if impl_number.is a0 a1 v=true then some (v,true) else some (0,false)
 | _=>some (0,false)) else none
set_option maxHeartbeats 4000000 in
set_option maxRecDepth 100000 in
theorem impl_number.calls (a0:ByteArray) (a1:Int) (r1:Int) (r2:Bool) (w:World) (henv:Env w) (h:impl_number.f a0 a1=some (r1,r2)) :
  Calls Tryz.prog 31 #[.string a0,.int .i64 a1] w fun e w'=>e=.returned (.tuple #[.int .i64 r1,.bool r2])∧Below w.heap.size w w':=by
 unfold impl_number.f at h
 split at h
 ·rename_i hsz
  obtain ⟨ts,ps,hs⟩:=(Env_here henv).syn;obtain ⟨tr,pr,hr⟩:=(Env_here henv).rng;have HE:=am henv
  cases hp:Lib.parseIntB 64 a0.data.toList with
  | «syntax» =>
   rw [hp] at h;simp only [Option.some.injEq,Prod.mk.injEq] at h;obtain ⟨rfl,rfl⟩:=h;have c:=Tryz.strconv_ParseInt_10_at64_syntax_var a0 hsz hp ts ps w hs;clear hs hr henv hp hsz
   go_enter Tryz.func31,Tryz.ntmps31
   go_wp2_with (go_at_call 51;refine c.mono ?_;rintro e w1 ⟨n1,rfl,_,_,hb⟩;have HB:=am hb;clear hb)
   go_ret2
   exact ⟨rfl,HB.out⟩
  | range =>
   rw [hp] at h;simp only [Option.some.injEq,Prod.mk.injEq] at h;obtain ⟨rfl,rfl⟩:=h;have c:=Tryz.strconv_ParseInt_10_at64_range_var a0 hsz hp tr pr w hr;clear hs hr henv hp hsz
   go_enter Tryz.func31,Tryz.ntmps31
   go_wp2_with (go_at_call 51;refine c.mono ?_;rintro e w1 ⟨n1,rfl,_,_,hb⟩;have HB:=am hb;clear hb)
   go_ret2
   exact ⟨rfl,HB.out⟩
  | ok v =>
   rw [hp] at h;simp only at h
   have hbd:-9223372036854775808≤v∧v≤9223372036854775807:=by
    have:=Lib.parseIntB_bounds hp;rw [show ((2 ^ (64 - 1):Nat):Int)=9223372036854775808 from by decide] at this
    omega
   have c:=Tryz.strconv_ParseInt_10_at64_ok a0 (by omega) v hp w
   have hdec:∀ W:World,Below w.heap.size w W→Calls Tryz.prog 32 #[.int .i64 v] W fun e w'=>e=.returned (.string ⟨(Lib.itoa v).toArray⟩)∧Below W.heap.size W w':=fun W hb=>impl_decimal.calls v _ W (Env_on HE.out hb) (by unfold impl_decimal.f;rw [if_pos (by omega),if_pos (by omega)])
   have hwi:=impl_within.calls v 0 a1 (decide (0≤v) && decide (v≤a1))
   have hwf:impl_within.f v 0 a1=some (decide (0≤v) && decide (v≤a1)):=by
    unfold impl_within.f
    split <;> simp [*]
   have HD:=am hdec;have HW:=am (fun W=>hwi W hwf);clear hs hr henv hp hsz hdec hwi hwf
   go_enter Tryz.func31,Tryz.ntmps31
   go_wp2_with (first|(go_at_call 51;refine c.mono ?_;rintro e w1 ⟨rfl,hw1⟩;have HB:=am (show Below w.heap.size w w1 from hw1.elim (fun e=>e ▸ Below.refl _ _) (fun ⟨t,e⟩=>e ▸ Lib.bytesWorld_below _ _ _));clear hw1)|(go_at_call 32;refine (HD.out _ HB.out).mono ?_;rintro e w2 ⟨rfl,hb2⟩;have HB2:=am (below_step HB.out hb2);clear hb2)|(go_at_call 39;refine (HW.out _).mono ?_;rintro e w3 ⟨rfl,hd⟩))
   all_goals
    go_ret2
    clear c HD HW HE;refine ⟨?_,by first|exact HB2.out|exact below_step HB2.out hd.below⟩
    unfold impl_number.is at h
    clear HB HB2
    by_cases e0:Lib.itoa v=a0.data.toList <;> by_cases e1:0≤v <;> by_cases e2:v≤a1 <;> simp_all [ByteArray.toList_eq] <;> omega
 ·cases h
def strings_Split.f (a0 a1:ByteArray):Option (List ByteArray):=if a0.size < 4294967281 then (if 1≤a1.size then some (Lib.splitB a1 0 (Lib.countB a0 a1) a0) else none) else none
theorem strings_Split.calls (a0:ByteArray) (a1:ByteArray) (r:List ByteArray) (w:World) (henv:Env w) (h:strings_Split.f a0 a1=some r) :
  Calls Tryz.prog 30 #[.string a0,.string a1] w fun e w'=>∃ v0_:Value,e=.returned (v0_)∧Kd.R Kd.string 9 w' w.heap.size (fun _=>True) v0_ r∧Below w.heap.size w w':=by
 unfold strings_Split.f at h
 split at h
 ·split at h
  ·rename_i h0 h1
   obtain rfl:=Option.some.inj h;obtain ⟨m,hm⟩:=(Env_here henv).maxlen;have hlen:=Lib.splitB_all a1 h1 0 _ a0 rfl;have hle:=Lib.countB_le a1 h1 a0.size a0 (Nat.le_refl _);refine (Tryz.strings_Split a0 a1 m w h0 hm h1).mono ?_
   rintro e w' ⟨rfl,rfl⟩
   refine ⟨_,rfl,Kd.R_of_own (enc:=Value.string) ⟨?_,.inr ⟨w.heap.size,Lib.countB a0 a1 + 1,_,by rw [hlen],Nat.le_refl _,heap_alloc_new w _,?_,?_,?_,?_⟩⟩ (fun _ _=>trivial),below_alloc (Below.refl _ _) _⟩
   ·simp [encs]
   ·omega
   ·unfold maxLen
    omega
   ·simp [hlen]
   ·rw [Nat.mul_one];simp only [encs];exact List.take_of_length_le (by simp)
  ·cases h
 ·cases h
mutual
def impl_ReadLine.l0:Nat→List (S52)→List ByteArray→Int→Int→Option ((List (S52)) × Int)
 | 0,_,_,_,_=>none
 | k + 1,x4,x14,x15,x16=>if x16 < x15 then (if 0≤x16 then (if x16 < (x14.length:Int) then ((strings_Split.f (rdOf ByteArray.empty x14 x16) (⟨#[47]⟩:ByteArray)).bind fun t112=>(impl_ReadLine.l1 k x4 (([]:List Int)) x14 x15 x16 t112 (t112.length:Int) 0)) else (none)) else (none)) else ((impl_ValidLine.f x4).bind fun t107=>(if t107=true then (some (x4,0)) else (some (([]:List (S52)),5))))
def impl_ReadLine.l1:Nat→List (S52)→List Int→List ByteArray→Int→Int→List ByteArray→Int→Int→Option ((List (S52)) × Int)
 | 0,_,_,_,_,_,_,_,_=>none
 | k + 1,x4,x7,x14,x15,x16,x22,x23,x24=>if x24 < x23 then (if 0≤x24 then (if x24 < (x22.length:Int) then ((impl_number.f (rdOf ByteArray.empty x22 x24) 60).bind fun bt116=>(if bt116.2=true then (if x7.length < 140737488355328 then (impl_ReadLine.l1 k x4 (x7 ++ [IntKind.i8.wrap (bt116.1)]) x14 x15 x16 x22 x23 (wrap64 (x24 + 1))) else (none)) else (some (([]:List (S52)),5)))) else (none)) else (none)) else (if (x7.length:Int)=3 then (if 0 < (x7.length:Int) then (if 1 < (x7.length:Int) then (if 2 < (x7.length:Int) then (if x4.length < 46912496118442 then (impl_ReadLine.l0 k (x4 ++ [(⟨rd x7 0,rd x7 1,rd x7 2⟩:S52)]) x14 x15 (wrap64 (x16 + 1))) else (none)) else (none)) else (none)) else (none)) else (some (([]:List (S52)),5)))
end
def impl_ReadLine.f (k:Nat) (a0:ByteArray):Option ((List (S52)) × Int):=(strings_Split.f a0 (⟨#[32]⟩:ByteArray)).bind fun t104=>(impl_ReadLine.l0 k (([]:List (S52))) t104 (t104.length:Int) 0)
def impl_ReadLine.T16:Bool × List (List Nat × List Nat):=(true,[([],[]),([],[]),([1],[1]),([2],[2]),([],[]),([4],[4]),([5],[5]),([],[]),([7],[7]),([8],[8]),([3,6,9],[3,6,9]),([10],[10]),([0,11],[0,11]),([12,12,0,1,2,3,4,5,6,7,8,9,10,11,12],[0,12])])
def impl_ReadLine.B16:List Nat:=[0,0,2,6,0,16,48,0,128,384,1022,2046,4095,8191]
theorem impl_ReadLine.tab16:rtab .any (opsOf Tryz.f8 16)=impl_ReadLine.T16:=by kernel_rfl
theorem impl_ReadLine.bits16:waitsOk impl_ReadLine.T16.2 impl_ReadLine.B16=true:=by kernel_rfl
set_option maxHeartbeats 8000000 in
set_option maxRecDepth 100000 in
theorem impl_ReadLine.calls (k:Nat) (a0:ByteArray) (r1:List (S52)) (r2:Int) (w:World) (henv:Env w) (h:impl_ReadLine.f k a0=some (r1,r2)) :
  Calls Tryz.prog 8 #[.string a0] w fun e w'=>∃ v0_:Value,e=.returned (.tuple #[v0_,.int .i64 r2])∧Kd.R k52 52 w' w.heap.size (fun _=>True) v0_ r1∧Below w.heap.size w w':=by
 have hu52:=Tryz.underlying52;have HENV:=am henv;clear henv;have HB:=am (Below.refl w.heap.size w);have H:((strings_Split.f a0 (⟨#[32]⟩:ByteArray)).bind fun t104=>(impl_ReadLine.l0 k (([]:List (S52))) t104 (t104.length:Int) 0))=some (r1,r2):=h;clear h;obtain ⟨y101,hy101⟩:∃ y_:List (S52),y_=(([]:List (S52))):=⟨_,rfl⟩
 replace H:((strings_Split.f a0 (⟨#[32]⟩:ByteArray)).bind fun t104=>(impl_ReadLine.l0 k y101 t104 (t104.length:Int) 0))=some (r1,r2):=by first|(rw [hy101];with_reducible exact H)|(have H2_:=(Option.bind_some _ _).symm.trans H;rw [hy101];with_reducible exact H2_)|(have H2_:=(Option.bind_some _ _).symm.trans H;with_reducible exact H2_)|with_reducible exact H|(rw [hy101];exact H)|exact H
 have Ny101:=am hy101;clear hy101;replace H:=Option.bind_eq_some_iff.mp H;obtain ⟨t104,A20,H⟩:=H;replace H:(impl_ReadLine.l0 k y101 t104 (t104.length:Int) 0)=some (r1,r2):=H;have A2:=am A20;clear A20;have H':=am H;clear H
 go_enter Tryz.func8,Tryz.ntmps8
 go_wp2_with (first|((with_reducible refine gate_dst (N:=12) rfl ?_);refine Kd.R_lit k52 _ 52 ?hg (N:=12) ?hd (xs:=([]:List (S52))) (inner:=[]) (ok:=fun _=>True) (okp:=fun _=>True) ?hr ?hp (fun _ hk=>hk) trivial (Below.refl _ _) (Nat.le_refl _) (by simp) ?_;(case hd=>rfl);(case hg=>rfl);(case hr=>exact zq12);(case hp=>exact (Reps.none _ _));intro v102 w3 ho4 hb hg_ hnew_;clear hg_ hnew_;(first|rw [← Ny101.out] at ho4|(simp only [Int.reduceToNat] at ho4;rw [← Ny101.out] at ho4));have n0_:=am (Kd.R_lower ho4 (below_size zq0));have n1_:=am (below_step zq0 hb);clear HB;have HO103:=n0_;have HB:=n1_;clear n0_ n1_;clear hb ho4)|((with_reducible refine gate_callee (f:=30) rfl ?_);refine goesL_ (some 14) rfl rfl Tryz.func30 zq19 rfl #[.string a0,.string (⟨#[32]⟩:ByteArray)] rfl zq1 ?_;(with_reducible refine (strings_Split.calls a0 (⟨#[32]⟩:ByteArray) t104 _ ?side1 A2.out).mono ?_);(case side1=>exact Env_on HENV.out zq0);rintro e w5 ⟨v105,rfl,ho0,hb⟩;refine ⟨_,rfl,?_⟩;have n0_:=am (Kd.R_below zq62 hb);have n1_:=am (Kd.R_lower ho0 (below_size zq0));have n2_:=am (below_step zq0 hb);clear HO103;clear HB;have HO103:=n0_;have HO106:=n1_;have HB:=n2_;clear n0_ n1_ n2_;(try clear hb);(try clear hb2);(try clear hk);(try clear hi);(try clear ho0);obtain ⟨Ao6,co6,eo6⟩:=Kd.R_slice HO106.out;subst eo6))
 go_loopg [4,16] k (fun kq v4 v16 w'=>∃ (x4_1:List (S52)) (x16_1:Int),v16=.int .i64 x16_1∧Aside0 (impl_ReadLine.l0 kq x4_1 t104 (t104.length:Int) x16_1=some (r1,r2))∧Aside0 (kq≤k)∧Aside0 (Kd.R k52 52 w' w.heap.size (fun _=>True) v4 x4_1)∧Aside0 (Kd.R Kd.string 9 w' w.heap.size (fun _=>True) (.slice Ao6 t104.length co6) t104)∧Aside0 (Below w.heap.size w w'))
 case atStart=>exact ⟨(y101),(0),zq3,H',⟨Nat.le_refl _⟩,⟨by (with_reducible repeat (first|apply Kd.R_alloc|apply Kd.R_drewN|apply Kd.R_drew));exact HO103.out⟩,⟨by (with_reducible repeat (first|apply Kd.R_alloc|apply Kd.R_drewN|apply Kd.R_drew));exact HO106.out⟩,⟨by repeat (first|(with_reducible first|exact HB.out|apply below_alloc|apply pw_below_drewN|apply below_drew1)|exact HB.out)⟩⟩
 case round =>
  clear H';(try clear p2);(try clear c3);obtain ⟨x4_1,x16_1,rfl,HA,HK1,HO_4,HO_14,HB⟩:=hrel
  cases gk with
  | zero=>exact absurd HA.out (by simp [impl_ReadLine.l0])
  | succ k1 =>
   have H:=HA.out;clear HA;simp only [impl_ReadLine.l0] at H
   by_cases c7:x16_1 < (t104.length:Int)
   ·rw [if_pos c7] at H;have c7b0:=decide_eq_true c7;clear c7
    by_cases c8:0≤x16_1
    ·rw [if_pos c8] at H;have c8b0:=decide_eq_true c8;clear c8
     by_cases c9:x16_1 < (t104.length:Int)
     ·rw [if_pos c9] at H;have c9b0:=decide_eq_true c9;clear c9;obtain ⟨y109,hy109⟩:∃ y_:List Int,y_=(([]:List Int)):=⟨_,rfl⟩
      replace H:((strings_Split.f (rdOf ByteArray.empty t104 x16_1) (⟨#[47]⟩:ByteArray)).bind fun t112=>(impl_ReadLine.l1 k1 x4_1 y109 t104 (t104.length:Int) x16_1 t112 (t112.length:Int) 0))=some (r1,r2):=by first|(rw [hy109];with_reducible exact H)|(have H2_:=(Option.bind_some _ _).symm.trans H;rw [hy109];with_reducible exact H2_)|(have H2_:=(Option.bind_some _ _).symm.trans H;with_reducible exact H2_)|with_reducible exact H|(rw [hy109];exact H)|exact H
      have Ny109:=am hy109;clear hy109;replace H:=Option.bind_eq_some_iff.mp H;obtain ⟨t112,A100,H⟩:=H;replace H:(impl_ReadLine.l1 k1 x4_1 y109 t104 (t104.length:Int) x16_1 t112 (t112.length:Int) 0)=some (r1,r2):=H;have A10:=am A100;clear A100;have H':=am H;clear H;have p108:0≤(x16_1:Int):=of_decide_eq_true zq2;have q108:x16_1 < (t104.length:Int):=of_decide_eq_true zq2;obtain ⟨ad108,e108,hx108_0⟩:=Kd.at_string (Kd.R_reads' HO_14.out).2.2 x16_1 p108 q108;cases e108;replace p108:=eq_true p108;replace q108:=eq_true q108
      go_wp2_with (first|((with_reducible refine gate_dst (N:=20) rfl ?_);refine Kd.R_lit (Kd.int .i8) _ 44 ?hg (N:=20) ?hd (xs:=([]:List Int)) (inner:=[]) (ok:=fun _=>True) (okp:=fun _=>True) ?hr ?hp (fun _ hk=>hk) trivial (Below.refl _ _) (Nat.le_refl _) (by simp) ?_;(case hd=>rfl);(case hg=>rfl);(case hr=>exact zq12);(case hp=>exact (Reps.none _ _));intro v110 w11 ho12 hb hg_ hnew_;clear hg_ hnew_;(first|rw [← Ny109.out] at ho12|(simp only [Int.reduceToNat] at ho12;rw [← Ny109.out] at ho12));have n0_:=am (Kd.R_below zq7 hb);have n1_:=am (Kd.R_below zq14 hb);have n2_:=am (Kd.R_lower ho12 (below_size zq0));have n3_:=am (below_step zq0 hb);clear HO_4;clear HO_14;clear HB;have HO_4:=n0_;have HO_14:=n1_;have HO111:=n2_;have HB:=n3_;clear n0_ n1_ n2_ n3_;clear hb ho12)|((with_reducible refine gate_callee (f:=30) rfl ?_);refine goesL_ (some 22) rfl rfl Tryz.func30 zq19 rfl #[.string (rdOf ByteArray.empty t104 x16_1),.string (⟨#[47]⟩:ByteArray)] rfl zq1 ?_;(with_reducible refine (strings_Split.calls (rdOf ByteArray.empty t104 x16_1) (⟨#[47]⟩:ByteArray) t112 _ ?side1 A10.out).mono ?_);(case side1=>exact Env_on HENV.out zq0);rintro e w13 ⟨v113,rfl,ho0,hb⟩;refine ⟨_,rfl,?_⟩;have n0_:=am (Kd.R_below zq7 hb);have n1_:=am (Kd.R_elder' zq14 (Kd.R_base ho0) hb);have n2_:=am (Kd.R_below (by (with_reducible repeat (first|apply Kd.R_alloc|apply Kd.R_drewN|apply Kd.R_drew));exact HO111.out) hb);have n3_:=am (Kd.R_lower (Kd.R_new' ho0 (Kd.R_lt zq14)) (below_size zq0));have n4_:=am (below_step zq0 hb);clear HO_4;clear HO_14;clear HO111;clear HB;have HO_4:=n0_;have HO_14:=n1_;have HO111:=n2_;have HO114:=n3_;have HB:=n4_;clear n0_ n1_ n2_ n3_ n4_;(try clear hb);(try clear hb2);(try clear hk);(try clear hi);(try clear ho0);obtain ⟨Ao14,co14,eo14⟩:=Kd.R_slice HO114.out;subst eo14))
      go_loopg [7,24] k1 (fun kq v7 v24 w'=>∃ (x7_2:List Int) (x24_2:Int),v24=.int .i64 x24_2∧Aside0 (impl_ReadLine.l1 kq x4_1 x7_2 t104 (t104.length:Int) x16_1 t112 (t112.length:Int) x24_2=some (r1,r2))∧Aside0 (kq≤k1)∧Aside0 (Kd.R k52 52 w' w.heap.size (fun _=>True) u4 x4_1)∧Aside0 (Kd.R (Kd.int .i8) 44 w' w.heap.size (fun _=>True) v7 x7_2)∧Aside0 (Kd.R Kd.string 9 w' w.heap.size (fun k_=>some k_≠((.slice Ao14 t112.length co14):Value).ownBlock) (.slice (some ad108) t104.length co6) t104)∧Aside0 (Kd.R Kd.string 9 w' w.heap.size (fun k_=>some k_≠((.slice (some ad108) t104.length co6):Value).ownBlock) (.slice Ao14 t112.length co14) t112)∧Aside0 (Below w.heap.size w w'))
      case atStart=>exact ⟨(y109),(0),zq3,H',⟨Nat.le_refl _⟩,⟨by (with_reducible repeat (first|apply Kd.R_alloc|apply Kd.R_drewN|apply Kd.R_drew));exact HO_4.out⟩,⟨by (with_reducible repeat (first|apply Kd.R_alloc|apply Kd.R_drewN|apply Kd.R_drew));exact HO111.out⟩,⟨by (with_reducible repeat (first|apply Kd.R_alloc|apply Kd.R_drewN|apply Kd.R_drew));exact Kd.R_mono HO_14.out (fun _ hk=>hk.2)⟩,⟨by (with_reducible repeat (first|apply Kd.R_alloc|apply Kd.R_drewN|apply Kd.R_drew));exact Kd.R_mono HO114.out (fun _ hk=>hk.2)⟩,⟨by repeat (first|(with_reducible first|exact HB.out|apply below_alloc|apply pw_below_drewN|apply below_drew1)|exact HB.out)⟩⟩
      case round =>
       clear H';(try clear p1);(try clear q1);(try clear hx1);(try clear p2);(try clear c3);(try clear c7);(try clear c7b0);(try clear c8);(try clear c8b0);(try clear c9);(try clear c9b0);(try clear p10);(try clear q10);(try clear hx10);(try clear hx108_0);(try clear p108);(try clear p2);(try clear q108);obtain ⟨x7_2,x24_2,rfl,HA,HK2,HO_4,HO_7,HO_14,HO_22,HB⟩:=hrel
       cases gk with
       | zero=>exact absurd HA.out (by simp [impl_ReadLine.l1])
       | succ k2 =>
        have H:=HA.out;clear HA;simp only [impl_ReadLine.l1] at H
        by_cases c15:x24_2 < (t112.length:Int)
        ·rw [if_pos c15] at H;have c15b0:=decide_eq_true c15;clear c15
         by_cases c16:0≤x24_2
         ·rw [if_pos c16] at H;have c16b0:=decide_eq_true c16;clear c16
          by_cases c17:x24_2 < (t112.length:Int)
          ·rw [if_pos c17] at H;have c17b0:=decide_eq_true c17;clear c17;replace H:=Option.bind_eq_some_iff.mp H;obtain ⟨⟨t116,t117⟩,A180,H⟩:=H;replace H:(if t117=true then (if x7_2.length < 140737488355328 then (impl_ReadLine.l1 k2 x4_1 (x7_2 ++ [IntKind.i8.wrap (t116)]) t104 (t104.length:Int) x16_1 t112 (t112.length:Int) (wrap64 (x24_2 + 1))) else (none)) else (some (([]:List (S52)),5)))=some (r1,r2):=H;have A18:=am A180;clear A180
           by_cases c19:t117=true
           ·subst c19
            have H1:(if x7_2.length < 140737488355328 then (impl_ReadLine.l1 k2 x4_1 (x7_2 ++ [IntKind.i8.wrap (t116)]) t104 (t104.length:Int) x16_1 t112 (t112.length:Int) (wrap64 (x24_2 + 1))) else (none))=some (r1,r2):=by rw [if_pos rfl] at H;exact H
            clear H;have H:=H1;clear H1
            by_cases c20:x7_2.length < 140737488355328
            ·rw [if_pos c20] at H;have LMc20:=am c20;clear c20;obtain ⟨y118,hy118⟩:∃ y_:List Int,y_=(x7_2 ++ [IntKind.i8.wrap (t116)]):=⟨_,rfl⟩
             replace H:(impl_ReadLine.l1 k2 x4_1 y118 t104 (t104.length:Int) x16_1 t112 (t112.length:Int) (wrap64 (x24_2 + 1)))=some (r1,r2):=by first|(rw [hy118];with_reducible exact H)|(have H2_:=(Option.bind_some _ _).symm.trans H;rw [hy118];with_reducible exact H2_)|(have H2_:=(Option.bind_some _ _).symm.trans H;with_reducible exact H2_)|with_reducible exact H|(rw [hy118];exact H)|exact H
             have Ny118:=am hy118;clear hy118;have H':=am H;clear H;have p115:0≤(x24_2:Int):=of_decide_eq_true zq2;have q115:x24_2 < (t112.length:Int):=of_decide_eq_true zq2;obtain ⟨ad115,e115,hx115_0⟩:=Kd.at_string (Kd.R_reads' HO_22.out).2.2 x24_2 p115 q115;cases e115;replace p115:=eq_true p115;replace q115:=eq_true q115
             go_wp2_with (first|((with_reducible refine gate_callee (f:=31) rfl ?_);refine goesL_ (some 30) rfl rfl Tryz.func31 zq19 rfl #[.string (rdOf ByteArray.empty t112 x24_2),.int .i64 60] rfl zq1 ?_;(with_reducible refine (impl_number.calls (rdOf ByteArray.empty t112 x24_2) 60 t116 true _ ?side1 A18.out).mono ?_);(case side1=>exact Env_on HENV.out zq0);rintro e w21 ⟨rfl,hb⟩;refine ⟨_,rfl,?_⟩;have n0_:=am (Kd.R_below zq7 hb);have n1_:=am (Kd.R_below zq18 hb);have n2_:=am (Kd.R_below zq14 hb);have n3_:=am (Kd.R_below zq59 hb);have n4_:=am (below_step zq0 hb);clear HO_4;clear HO_7;clear HO_14;clear HO_22;clear HB;have HO_4:=n0_;have HO_7:=n1_;have HO_14:=n2_;have HO_22:=n3_;have HB:=n4_;clear n0_ n1_ n2_ n3_ n4_;(try clear hb);(try clear hb2);(try clear hk);(try clear hi))|((with_reducible refine gate_builtin (b:=.append) (xs:=#[.tmp 35,.tmp 38]) rfl ?_);at_builtin;refine Kd.R_append (Kd.int .i8) (w0:=w) w.heap.size rfl (.tmp 35) (.tmp 38) 61 44 (.int .i8 0) 1 rfl Tryz.underlying61 info44 rfl (by decide) (by omega) u7 x7_2 (IntKind.i8.wrap (t116)) [.int .i8 (IntKind.i8.wrap (t116))] (fun _=>True) (fun _=>False) rfl rfl ?aP (fun _ hk=>hk.elim) ?aF ?aO ?aB ?aS ?aL ?_;(case aP=>exact rfl);(case aB=>exact zq0);(case aF=>exact (fun _ _=>trivial));(case aO=>exact zq18);(case aS=>exact (below_size zq0));(case aL=>have:=LMc20.out;omega);intro v119 w22 ho hb hg hat;rw [← Ny118.out] at ho;have n0_:=am (Kd.R_over' zq7 (Kd.R_typed zq18) (by decide) hg);have n1_:=am (Kd.R_over' zq14 (Kd.R_typed zq18) (by decide) hg);have n2_:=am (Kd.R_over' zq59 (Kd.R_typed zq18) (by decide) hg);have n3_:=am (hb);have n4_:=am (ho);clear HO_4;clear HO_14;clear HO_22;clear HB;clear HO_7;have HO_4:=n0_;have HO_14:=n1_;have HO_22:=n2_;have HB:=n3_;have HO120:=n4_;clear n0_ n1_ n2_ n3_ n4_;clear ho hb hg hat))
             go_roundg k2
             case measure=>have:=HK1.out;have:=HK2.out;omega
             case rel=>exact ⟨(y118),(wrap64 (x24_2 + 1)),zq3,H',⟨by have:=HK1.out;have:=HK2.out;omega⟩,⟨by (with_reducible repeat (first|apply Kd.R_alloc|apply Kd.R_drewN|apply Kd.R_drew));exact HO_4.out⟩,⟨by (with_reducible repeat (first|apply Kd.R_alloc|apply Kd.R_drewN|apply Kd.R_drew));exact HO120.out⟩,⟨by (with_reducible repeat (first|apply Kd.R_alloc|apply Kd.R_drewN|apply Kd.R_drew));exact HO_14.out⟩,⟨by (with_reducible repeat (first|apply Kd.R_alloc|apply Kd.R_drewN|apply Kd.R_drew));exact HO_22.out⟩,⟨by repeat (first|(with_reducible first|exact HB.out|apply below_alloc|apply pw_below_drewN|apply below_drew1)|exact HB.out)⟩⟩
            ·rw [if_neg c20] at H;exact absurd H (by simp)
           ·replace c19:=Bool.eq_false_iff.mpr c19;subst c19
            have H1:(some (([]:List (S52)),5))=some (r1,r2):=by rw [if_neg (show ¬ (false=true) by decide)] at H;exact H
            clear H;have H:=H1;clear H1;simp only [Option.some.injEq,Prod.mk.injEq] at H;obtain ⟨rfl,rfl⟩:=H;have p115:0≤(x24_2:Int):=of_decide_eq_true zq2;have q115:x24_2 < (t112.length:Int):=of_decide_eq_true zq2;obtain ⟨ad115,e115,hx115_0⟩:=Kd.at_string (Kd.R_reads' HO_22.out).2.2 x24_2 p115 q115;cases e115;replace p115:=eq_true p115;replace q115:=eq_true q115
            go_wp2_with (first|((with_reducible refine gate_callee (f:=31) rfl ?_);refine goesL_ (some 30) rfl rfl Tryz.func31 zq19 rfl #[.string (rdOf ByteArray.empty t112 x24_2),.int .i64 60] rfl zq1 ?_;(with_reducible refine (impl_number.calls (rdOf ByteArray.empty t112 x24_2) 60 t116 false _ ?side1 A18.out).mono ?_);(case side1=>exact Env_on HENV.out zq0);rintro e w23 ⟨rfl,hb⟩;refine ⟨_,rfl,?_⟩;have n0_:=am (Kd.R_below zq7 hb);have n1_:=am (Kd.R_below zq18 hb);have n2_:=am (Kd.R_below zq14 hb);have n3_:=am (Kd.R_below zq59 hb);have n4_:=am (below_step zq0 hb);clear HO_4;clear HO_7;clear HO_14;clear HO_22;clear HB;have HO_4:=n0_;have HO_7:=n1_;have HO_14:=n2_;have HO_22:=n3_;have HB:=n4_;clear n0_ n1_ n2_ n3_ n4_;(try clear hb);(try clear hb2);(try clear hk);(try clear hi)))
            go_ret2
            exact ⟨_,by first|rfl|(simp [errW_none,errW_some,IntKind.wrap_i64,wrap64];done)|(simp [errW_none,errW_some] <;> rfl)|(simp [*,errW_none,errW_some] <;> rfl),by first|exact Kd.R_nil _ _ _ _ _|exact Kd.N_nil _ _ _ _ _|exact Kd.V_nil _ _ _ _ _|exact Kd.Q_nil _ _ _ _ _|exact Kd.S_nil _ _ _ _ _,by repeat (first|(with_reducible first|exact HB.out|apply below_alloc|apply pw_below_drewN|apply below_drew1)|exact HB.out)⟩
          ·rw [if_neg c17] at H;exact absurd H (by simp)
         ·rw [if_neg c16] at H;exact absurd H (by simp)
        ·rw [if_neg c15] at H;have c15b0:=decide_eq_false c15;clear c15
         by_cases c24:(x7_2.length:Int)=3
         ·rw [if_pos c24] at H;have c24b0:=beq_iff_eq.mpr c24;have c24b1:=bne_eq_false_iff_eq.mpr c24;clear c24
          by_cases c25:0 < (x7_2.length:Int)
          ·rw [if_pos c25] at H;have c25b0:=decide_eq_true c25;have c25b1:decide (0 < x7_2.length)=true:=decide_eq_true (by omega);clear c25
           by_cases c26:1 < (x7_2.length:Int)
           ·rw [if_pos c26] at H;have c26b0:=decide_eq_true c26;have c26b1:decide (1 < x7_2.length)=true:=decide_eq_true (by omega);clear c26
            by_cases c27:2 < (x7_2.length:Int)
            ·rw [if_pos c27] at H;have c27b0:=decide_eq_true c27;have c27b1:decide (2 < x7_2.length)=true:=decide_eq_true (by omega);clear c27
             by_cases c28:x4_1.length < 46912496118442
             ·rw [if_pos c28] at H;have LMc28:=am c28;clear c28;obtain ⟨y124,hy124⟩:∃ y_:List (S52),y_=(x4_1 ++ [(⟨rd x7_2 0,rd x7_2 1,rd x7_2 2⟩:S52)]):=⟨_,rfl⟩
              replace H:(impl_ReadLine.l0 k2 y124 t104 (t104.length:Int) (wrap64 (x16_1 + 1)))=some (r1,r2):=by first|(rw [hy124];with_reducible exact H)|(have H2_:=(Option.bind_some _ _).symm.trans H;rw [hy124];with_reducible exact H2_)|(have H2_:=(Option.bind_some _ _).symm.trans H;with_reducible exact H2_)|with_reducible exact H|(rw [hy124];exact H)|exact H
              have Ny124:=am hy124;clear hy124;have H':=am H;clear H;obtain ⟨Ao29,co29,eo29⟩:=Kd.R_slice HO_7.out;subst eo29;(try go_wp2);have n0_:=am (Kd.R_drew HO_4.out);have n1_:=am (Kd.R_drew HO_7.out);have n2_:=am (Kd.R_drew HO_14.out);have n3_:=am (Kd.R_drew HO_22.out);have n4_:=am (below_drew1 HB.out);clear HO_4;clear HO_7;clear HO_14;clear HO_22;clear HB;have HO_4:=n0_;have HO_7:=n1_;have HO_14:=n2_;have HO_22:=n3_;have HB:=n4_;clear n0_ n1_ n2_ n3_ n4_;have p121:0≤(0:Int):=(by omega);have q121:0 < (x7_2.length:Int):=of_decide_eq_true zq2;obtain ⟨ad121,e121,hx121_0⟩:=Kd.at_int (Kd.R_reads' HO_7.out).2.2 0 p121 q121;cases e121;have qi121:(0 < x7_2.length)=True:=eq_true (by omega);(try rw [show ((0:Int)).toNat=0 from rfl] at hx121_0);(try rw [Addr.add_zero'] at hx121_0);replace p121:=eq_true p121;replace q121:=eq_true q121;have p122:0≤(1:Int):=(by omega);have q122:1 < (x7_2.length:Int):=of_decide_eq_true zq2;obtain ⟨ad122,e122,hx122_0⟩:=Kd.at_int (Kd.R_reads' HO_7.out).2.2 1 p122 q122;obtain rfl:ad121=ad122:=(by injection e122);(try simp only [show (1:Int).toNat=1 from rfl,Nat.reduceMul,Nat.reduceEqDiff,Go.Addr.add,↓reduceIte] at hx122_0);have qi122:(1 < x7_2.length)=True:=eq_true (by omega);(try rw [show ((1:Int)).toNat=1 from rfl] at hx122_0);replace p122:=eq_true p122;replace q122:=eq_true q122;have p123:0≤(2:Int):=(by omega);have q123:2 < (x7_2.length:Int):=of_decide_eq_true zq2;obtain ⟨ad123,e123,hx123_0⟩:=Kd.at_int (Kd.R_reads' HO_7.out).2.2 2 p123 q123;obtain rfl:ad121=ad123:=(by injection e123);(try simp only [show (2:Int).toNat=2 from rfl,Nat.reduceMul,Nat.reduceEqDiff,Go.Addr.add,↓reduceIte] at hx123_0);have qi123:(2 < x7_2.length)=True:=eq_true (by omega);(try rw [show ((2:Int)).toNat=2 from rfl] at hx123_0);replace p123:=eq_true p123;replace q123:=eq_true q123;refine start_ (n:=14) (S:=fun w'=>w'.cell? ad121=some (.int .i8 (rd x7_2 0))∧w'.cell? ⟨ad121.block,ad121.off + 1,none⟩=some (.int .i8 (rd x7_2 1))∧w'.cell? ⟨ad121.block,ad121.off + 2,none⟩=some (.int .i8 (rd x7_2 2))) (ds:=[11,12]) #[false,false,false,false,false,false,false,false,false,false,false,false,false,false] zq19 rfl rfl ⟨hx121_0,hx122_0,hx123_0⟩ (fun hHeld=>?_);refine with_tabW impl_ReadLine.tab16 impl_ReadLine.bits16 (fun HT_ HW_=>?_);generalize wr.drew=w30 at HO_4 HO_7 HO_14 HO_22 HB hx121_0 hx122_0 hx123_0 hHeld ⊢;refine pw_ 0 44 ?_;refine pw_ 1 45 ?_;refine pw_ 2 46 ?_;refine pw_ 4 48 ?_;refine pw_ 5 49 ?_;refine pw_ 7 51 ?_;refine pw_ 8 52 ?_;refine tw3_ 3 47 ?_;refine tw3_ 6 50 ?_;refine tw3_ 9 53 ?_;refine pw_ 10 54 ?_;refine last_ (i:=11) (N:=some 55) #[true,true,true,true,true,true,true,true,true,true,true,true,false,false] rfl rfl (one_of HT_.out zq19) (by decide) (fun K hK=>?_);refine value_ (w1:=?_) (v:=?_) (by rfl) rfl ?_ ?_;rotate_left 2
              ·go_simp
               constructor
               ·rfl
               ·rfl
              refine hK.out _ _ ?_;clear hK K;refine norm_ (a':=?_) ?_ ?_;rotate_left
              ·show Act.put _ (some 55) _=_
               simp only [Act.put,List.setIfInBounds_toArray,List.set_cons_zero,List.set_cons_succ,i64_w,i32_w];rfl
              refine last_ (i:=12) (N:=some 56) #[true,true,true,true,true,true,true,true,true,true,true,true,true,false] rfl rfl (one_of HT_.out zq19) (by decide) (fun K hK=>?_);refine Kd.R_append_step k52 (w0:=w) w.heap.size (by rfl) (.tmp 44) (.tmp 55) 24 52 (.agg #[(.int .i8 0),(.int .i8 0),(.int .i8 0)]) 3 rfl Tryz.underlying24 info52 rfl (by decide) (by omega) u4 x4_1 (⟨rd x7_2 0,rd x7_2 1,rd x7_2 2⟩:S52) [.int .i8 (rd x7_2 0),.int .i8 (rd x7_2 1),.int .i8 (rd x7_2 2)] (fun _=>True) (fun _=>False) rfl rfl ?aP (fun _ hk=>hk.elim) ?aF ?aO ?aB ?aS ?aL ?_;(case aP=>exact k52_mkM _ _ _ (⟨rd x7_2 0,rd x7_2 1,rd x7_2 2⟩:S52));(case aB=>exact zq0);(case aF=>exact (fun _ _=>trivial));(case aO=>exact zq7);(case aS=>exact (below_size zq0));(case aL=>have:=LMc28.out;omega);intro v125 w31 ho hb hg hat;rw [← Ny124.out] at ho;have n0_:=am (Kd.R_over' zq18 (Kd.R_typed zq7) (by decide) hg);have n1_:=am (Kd.R_over' zq14 (Kd.R_typed zq7) (by decide) hg);have n2_:=am (Kd.R_over' zq59 (Kd.R_typed zq7) (by decide) hg);have n3_:=am (hb);have n4_:=am (ho);clear HO_7;clear HO_14;clear HO_22;clear HB;clear HO_4;have HO_7:=n0_;have HO_14:=n1_;have HO_22:=n2_;have HB:=n3_;have HO126:=n4_;clear n0_ n1_ n2_ n3_ n4_;clear ho hb hg hat;refine hK.out _ _ ?_;clear hK K;refine norm_ (a':=?_) ?_ ?_;rotate_left
              ·show Act.put _ (some 56) _=_
               simp only [Act.put,List.setIfInBounds_toArray,List.set_cons_zero,List.set_cons_succ,i64_w,i32_w];rfl
              refine pw_ 13 4 ?_;refine done_ (done_of HT_.out zq19) ?_;(try go_wp2)
              go_roundg k2
              case measure=>have:=HK1.out;have:=HK2.out;omega
              case rel=>exact ⟨(y124),(wrap64 (x16_1 + 1)),zq3,H',⟨by have:=HK1.out;have:=HK2.out;omega⟩,⟨by (with_reducible repeat (first|apply Kd.R_alloc|apply Kd.R_drewN|apply Kd.R_drew));exact HO126.out⟩,⟨by (with_reducible repeat (first|apply Kd.R_alloc|apply Kd.R_drewN|apply Kd.R_drew));exact Kd.R_mono HO_14.out (fun _ hk=>trivial)⟩,⟨by repeat (first|(with_reducible first|exact HB.out|apply below_alloc|apply pw_below_drewN|apply below_drew1)|exact HB.out)⟩⟩
             ·rw [if_neg c28] at H;exact absurd H (by simp)
            ·rw [if_neg c27] at H;exact absurd H (by simp)
           ·rw [if_neg c26] at H;exact absurd H (by simp)
          ·rw [if_neg c25] at H;exact absurd H (by simp)
         ·rw [if_neg c24] at H;have c24b0:=beq_eq_false_iff_ne.mpr c24;have c24b1:=bne_iff_ne.mpr c24;simp only [Option.some.injEq,Prod.mk.injEq] at H;obtain ⟨rfl,rfl⟩:=H;obtain ⟨Ao32,co32,eo32⟩:=Kd.R_slice HO_7.out;subst eo32
          go_wp2
          go_ret2
          exact ⟨_,by first|rfl|(simp [errW_none,errW_some,IntKind.wrap_i64,wrap64];done)|(simp [errW_none,errW_some] <;> rfl)|(simp [*,errW_none,errW_some] <;> rfl),by first|exact Kd.R_nil _ _ _ _ _|exact Kd.N_nil _ _ _ _ _|exact Kd.V_nil _ _ _ _ _|exact Kd.Q_nil _ _ _ _ _|exact Kd.S_nil _ _ _ _ _,by repeat (first|(with_reducible first|exact HB.out|apply below_alloc|apply pw_below_drewN|apply below_drew1)|exact HB.out)⟩
     ·rw [if_neg c9] at H;exact absurd H (by simp)
    ·rw [if_neg c8] at H;exact absurd H (by simp)
   ·rw [if_neg c7] at H;have c7b0:=decide_eq_false c7;clear c7;replace H:=Option.bind_eq_some_iff.mp H;obtain ⟨t107,A330,H⟩:=H;replace H:(if t107=true then (some (x4_1,0)) else (some (([]:List (S52)),5)))=some (r1,r2):=H;have A33:=am A330;clear A330
    by_cases c34:t107=true
    ·subst c34
     have H1:(some (x4_1,0))=some (r1,r2):=by rw [if_pos rfl] at H;exact H
     clear H;have H:=H1;clear H1;simp only [Option.some.injEq,Prod.mk.injEq] at H;obtain ⟨rfl,rfl⟩:=H;obtain ⟨Ao35,co35,eo35⟩:=Kd.R_slice HO_4.out;subst eo35
     go_wp2_with (first|((with_reducible refine gate_callee (f:=19) rfl ?_);refine goesL_ (some 59) rfl rfl Tryz.func19 zq19 rfl #[.slice Ao35 x4_1.length co35] rfl zq1 ?_;(with_reducible refine (impl_ValidLine.calls _ _ x4_1 true _ ?side1 ?side2 A33.out).mono ?_);(case side1=>exact zq74);(case side2=>exact (Kd.R_reads' HO_4.out).2.1);rintro e w36 ⟨rfl,hb⟩;refine ⟨_,rfl,?_⟩;have n0_:=am (Kd.R_below zq7 hb);have n1_:=am (Kd.R_below zq14 hb);have n2_:=am (below_step zq0 hb);clear HO_4;clear HO_14;clear HB;have HO_4:=n0_;have HO_14:=n1_;have HB:=n2_;clear n0_ n1_ n2_;(try clear hb);(try clear hb2);(try clear hk);(try clear hi)))
     go_ret2
     exact ⟨_,by first|rfl|(simp [errW_none,errW_some,IntKind.wrap_i64,wrap64];done)|(simp [errW_none,errW_some] <;> rfl)|(simp [*,errW_none,errW_some] <;> rfl),by (with_reducible repeat (first|apply Kd.R_alloc|apply Kd.R_drewN|apply Kd.R_drew));exact HO_4.out,by repeat (first|(with_reducible first|exact HB.out|apply below_alloc|apply pw_below_drewN|apply below_drew1)|exact HB.out)⟩
    ·replace c34:=Bool.eq_false_iff.mpr c34;subst c34
     have H1:(some (([]:List (S52)),5))=some (r1,r2):=by rw [if_neg (show ¬ (false=true) by decide)] at H;exact H
     clear H;have H:=H1;clear H1;simp only [Option.some.injEq,Prod.mk.injEq] at H;obtain ⟨rfl,rfl⟩:=H;obtain ⟨Ao37,co37,eo37⟩:=Kd.R_slice HO_4.out;subst eo37
     go_wp2_with (first|((with_reducible refine gate_callee (f:=19) rfl ?_);refine goesL_ (some 59) rfl rfl Tryz.func19 zq19 rfl #[.slice Ao37 x4_1.length co37] rfl zq1 ?_;(with_reducible refine (impl_ValidLine.calls _ _ x4_1 false _ ?side1 ?side2 A33.out).mono ?_);(case side1=>exact zq74);(case side2=>exact (Kd.R_reads' HO_4.out).2.1);rintro e w38 ⟨rfl,hb⟩;refine ⟨_,rfl,?_⟩;have n0_:=am (Kd.R_below zq7 hb);have n1_:=am (Kd.R_below zq14 hb);have n2_:=am (below_step zq0 hb);clear HO_4;clear HO_14;clear HB;have HO_4:=n0_;have HO_14:=n1_;have HB:=n2_;clear n0_ n1_ n2_;(try clear hb);(try clear hb2);(try clear hk);(try clear hi)))
     go_ret2
     exact ⟨_,by first|rfl|(simp [errW_none,errW_some,IntKind.wrap_i64,wrap64];done)|(simp [errW_none,errW_some] <;> rfl)|(simp [*,errW_none,errW_some] <;> rfl),by first|exact Kd.R_nil _ _ _ _ _|exact Kd.N_nil _ _ _ _ _|exact Kd.V_nil _ _ _ _ _|exact Kd.Q_nil _ _ _ _ _|exact Kd.S_nil _ _ _ _ _,by repeat (first|(with_reducible first|exact HB.out|apply below_alloc|apply pw_below_drewN|apply below_drew1)|exact HB.out)⟩
def impl_SameTimes.f (k:Nat) (l0:List (S46)) (l1:List (S46)):Option (Bool):=(slices_Equal_Times_Times.f k l0 l1).bind fun t101=>(some t101)
set_option maxHeartbeats 8000000 in
set_option maxRecDepth 100000 in
theorem impl_SameTimes.calls (k:Nat) (A0:Option Addr) (c0:Nat) (l0:List (S46)) (A1:Option Addr) (c1:Nat) (l1:List (S46)) (r:Bool) (w:World) (hr0:Kd.C k46 w A0 l0.length l0) (hc0:l0.length≤c0) (hr1:Kd.C k46 w A1 l1.length l1) (hc1:l1.length≤c1) (h:impl_SameTimes.f k l0 l1=some r) :
  Calls Tryz.prog 17 #[.slice A0 l0.length c0,.slice A1 l1.length c1] w fun e w'=>e=.returned (.bool r)∧Drawn0 w w':=by
 have HR0:=am hr0;have HC0:=am hc0;clear hr0 hc0;have HR1:=am hr1;have HC1:=am hc1;clear hr1 hc1;have H:((slices_Equal_Times_Times.f k l0 l1).bind fun t101=>(some t101))=some r:=h;clear h;replace H:=Option.bind_eq_some_iff.mp H;obtain ⟨t101,A30,H⟩:=H;replace H:(some t101)=some r:=H;have A3:=am A30;clear A30;obtain rfl:=Option.some.inj H
 go_enter Tryz.func17,Tryz.ntmps17
 go_wp2_with (first|((with_reducible refine gate_callee (f:=34) rfl ?_);refine goesL_ (some 7) rfl rfl Tryz.func34 zq19 rfl #[.slice A0 l0.length c0,.slice A1 l1.length c1] rfl zq1 ?_;(with_reducible refine (slices_Equal_Times_Times.calls k _ _ l0 _ _ l1 t101 _ ?side1 ?side2 ?side3 ?side4 A3.out).mono ?_);(case side1=>exact zq4);(case side2=>exact HC0.out);(case side3=>exact zq46);(case side4=>exact HC1.out);rintro e w' ⟨rfl,⟨nd,rfl⟩⟩;refine ⟨_,rfl,?_⟩))
 go_ret
 exact ⟨by first|rfl|(simp only [IntKind.wrap_i64,wrap64];done)|(simp;done)|(simp [*];done),by repeat (first|exact Drawn0.refl _|apply Drawn0.step)⟩
def impl_Unreached.l0:Nat→List Int→List (S46)→Int→Int→Option (List Int × Int)
 | 0,_,_,_,_=>none
 | k + 1,x6,x18,x19,x20=>if x20 < x19 then (if 0≤x20 then (if x20 < (x18.length:Int) then (if ((rd_T46 x18 x20).f2) < 0 then (if x6.length < 17592186044416 then (impl_Unreached.l0 k (x6 ++ [x20]) x18 x19 (wrap64 (x20 + 1))) else (none)) else (impl_Unreached.l0 k x6 x18 x19 (wrap64 (x20 + 1)))) else (none)) else (none)) else (some (x6,0))
def impl_Unreached.f (k:Nat) (l0:List (S52)):Option (List Int × Int):=(impl_TimesOf.f k l0).bind fun bt101=>(if bt101.2=0 then (impl_Unreached.l0 k (([]:List Int)) bt101.1 (bt101.1.length:Int) 0) else (some (([]:List Int),bt101.2)))
set_option maxHeartbeats 8000000 in
set_option maxRecDepth 100000 in
theorem impl_Unreached.calls (k:Nat) (A0:Option Addr) (c0:Nat) (l0:List (S52)) (r1:List Int) (r2:Int) (w:World) (hr0:Kd.C k52 w A0 l0.length l0) (hc0:l0.length≤c0) (h:impl_Unreached.f k l0=some (r1,r2)) :
  Calls Tryz.prog 11 #[.slice A0 l0.length c0] w fun e w'=>∃ v0_:Value,e=.returned (.tuple #[v0_,.int .i64 r2])∧Kd.R (Kd.int .i64) 2 w' w.heap.size (fun _=>True) v0_ r1∧Below w.heap.size w w':=by
 have hu46:=Tryz.underlying46;have HR0:=am hr0;have HC0:=am hc0;clear hr0 hc0;have HB:=am (Below.refl w.heap.size w);have H:((impl_TimesOf.f k l0).bind fun bt101=>(if bt101.2=0 then (impl_Unreached.l0 k (([]:List Int)) bt101.1 (bt101.1.length:Int) 0) else (some (([]:List Int),bt101.2))))=some (r1,r2):=h;clear h;replace H:=Option.bind_eq_some_iff.mp H;obtain ⟨⟨t101,t102⟩,A20,H⟩:=H;replace H:(if t102=0 then (impl_Unreached.l0 k (([]:List Int)) t101 (t101.length:Int) 0) else (some (([]:List Int),t102)))=some (r1,r2):=H;have A2:=am A20;clear A20
 by_cases c3:t102=0
 ·rw [if_pos c3] at H;have c3b0:=beq_iff_eq.mpr c3;have c3b1:=bne_eq_false_iff_eq.mpr c3;clear c3;obtain ⟨y105,hy105⟩:∃ y_:List Int,y_=(([]:List Int)):=⟨_,rfl⟩
  replace H:(impl_Unreached.l0 k y105 t101 (t101.length:Int) 0)=some (r1,r2):=by first|(rw [hy105];with_reducible exact H)|(have H2_:=(Option.bind_some _ _).symm.trans H;rw [hy105];with_reducible exact H2_)|(have H2_:=(Option.bind_some _ _).symm.trans H;with_reducible exact H2_)|with_reducible exact H|(rw [hy105];exact H)|exact H
  have Ny105:=am hy105;clear hy105;have H':=am H;clear H
  go_enter Tryz.func11,Tryz.ntmps11
  go_wp2_with (first|((with_reducible refine gate_callee (f:=6) rfl ?_);refine goesL_ (some 11) rfl rfl Tryz.func6 zq19 rfl #[.slice A0 l0.length c0] rfl zq1 ?_;(with_reducible refine (impl_TimesOf.calls k _ _ l0 t101 t102 _ ?side1 ?side2 A2.out).mono ?_);(case side1=>exact zq4);(case side2=>exact HC0.out);rintro e w4 ⟨v103,rfl,ho0,hb⟩;refine ⟨_,rfl,?_⟩;have n0_:=am (Kd.R_lower ho0 (below_size zq0));have n1_:=am (below_step zq0 hb);clear HB;have HO104:=n0_;have HB:=n1_;clear n0_ n1_;(try clear hb);(try clear hb2);(try clear hk);(try clear hi);(try clear ho0))|((with_reducible refine gate_dst (N:=17) rfl ?_);refine Kd.R_lit (Kd.int .i64) _ 2 ?hg (N:=17) ?hd (xs:=([]:List Int)) (inner:=[]) (ok:=fun _=>True) (okp:=fun _=>True) ?hr ?hp (fun _ hk=>hk) trivial (Below.refl _ _) (Nat.le_refl _) (by simp) ?_;(case hd=>rfl);(case hg=>rfl);(case hr=>exact zq12);(case hp=>exact (Reps.none _ _));intro v106 w5 ho6 hb hg_ hnew_;clear hg_ hnew_;(first|rw [← Ny105.out] at ho6|(simp only [Int.reduceToNat] at ho6;rw [← Ny105.out] at ho6));have n0_:=am (Kd.R_below zq15 hb);have n1_:=am (Kd.R_lower ho6 (below_size zq0));have n2_:=am (below_step zq0 hb);clear HO104;clear HB;have HO104:=n0_;have HO107:=n1_;have HB:=n2_;clear n0_ n1_ n2_;clear hb ho6;obtain ⟨Ao7,co7,eo7⟩:=Kd.R_slice HO104.out;subst eo7))
  go_loopg [6,20] k (fun kq v6 v20 w'=>∃ (x6_1:List Int) (x20_1:Int),v20=.int .i64 x20_1∧Aside0 (impl_Unreached.l0 kq x6_1 t101 (t101.length:Int) x20_1=some (r1,r2))∧Aside0 (kq≤k)∧Aside0 (Kd.R (Kd.int .i64) 2 w' w.heap.size (fun _=>True) v6 x6_1)∧Aside0 (Kd.R k46 46 w' w.heap.size (fun _=>True) (.slice Ao7 t101.length co7) t101)∧Aside0 (Below w.heap.size w w'))
  case atStart=>exact ⟨(y105),(0),zq3,H',⟨Nat.le_refl _⟩,⟨by (with_reducible repeat (first|apply Kd.R_alloc|apply Kd.R_drewN|apply Kd.R_drew));exact HO107.out⟩,⟨by (with_reducible repeat (first|apply Kd.R_alloc|apply Kd.R_drewN|apply Kd.R_drew));exact HO104.out⟩,⟨by repeat (first|(with_reducible first|exact HB.out|apply below_alloc|apply pw_below_drewN|apply below_drew1)|exact HB.out)⟩⟩
  case round =>
   clear H';(try clear c1);(try clear p2);(try clear c3);(try clear c3b0);(try clear c3b1);(try clear c6);obtain ⟨x6_1,x20_1,rfl,HA,HK1,HO_6,HO_18,HB⟩:=hrel
   cases gk with
   | zero=>exact absurd HA.out (by simp [impl_Unreached.l0])
   | succ k1 =>
    have H:=HA.out;clear HA;simp only [impl_Unreached.l0] at H
    by_cases c8:x20_1 < (t101.length:Int)
    ·rw [if_pos c8] at H;have c8b0:=decide_eq_true c8;clear c8
     by_cases c9:0≤x20_1
     ·rw [if_pos c9] at H;have c9b0:=decide_eq_true c9;clear c9
      by_cases c10:x20_1 < (t101.length:Int)
      ·rw [if_pos c10] at H;have c10b0:=decide_eq_true c10;clear c10
       by_cases c11:((rd_T46 t101 x20_1).f2) < 0
       ·rw [if_pos c11] at H;have c11b0:=decide_eq_true c11;clear c11
        by_cases c12:x6_1.length < 17592186044416
        ·rw [if_pos c12] at H;have LMc12:=am c12;clear c12;obtain ⟨y110,hy110⟩:∃ y_:List Int,y_=(x6_1 ++ [x20_1]):=⟨_,rfl⟩
         replace H:(impl_Unreached.l0 k1 y110 t101 (t101.length:Int) (wrap64 (x20_1 + 1)))=some (r1,r2):=by first|(rw [hy110];with_reducible exact H)|(have H2_:=(Option.bind_some _ _).symm.trans H;rw [hy110];with_reducible exact H2_)|(have H2_:=(Option.bind_some _ _).symm.trans H;with_reducible exact H2_)|with_reducible exact H|(rw [hy110];exact H)|exact H
         have Ny110:=am hy110;clear hy110;have H':=am H;clear H;have p108:0≤(x20_1:Int):=of_decide_eq_true zq2;have q108:x20_1 < (t101.length:Int):=of_decide_eq_true zq2;obtain ⟨ad108,e108,hx108_0,hx108_1,hx108_2,hx108_3⟩:=at_T46 (Kd.R_reads' HO_18.out).2.2 x20_1 p108 q108;cases e108;replace p108:=eq_true p108;replace q108:=eq_true q108
         go_wp2_with (first|((with_reducible refine gate_dst (N:=8) rfl ?_);refine box_event ?hg (N:=8) ?hd (cs:=#[.int .i8 0,.int .i64 0,.int .i64 0,.int .i64 0]) (t:=46) ?hr ?_;(case hd=>rfl);(case hg=>rfl);(case hr=>exact zq12);intro gb109 hg w13 hbox hb;have n0_:=am (Kd.R_below zq45 hb);have n1_:=am (Kd.R_below (Kd.R_elderB zq60 gb109 (Nat.le_of_eq hg.symm)) hb);have n2_:=am (below_step zq0 hb);have n3_:=am (hbox);have n4_:=am ((by rw [hg];exact (below_size zq0):w.heap.size≤gb109));have n5_:=am ((by rw [hg];exact (below_size zq0):w.heap.size≤gb109));clear HO_6;clear HO_18;clear HB;have HO_6:=n0_;have HO_18:=n1_;have HB:=n2_;have BK109:=n3_;have GW109:=n4_;have GE109:=n5_;clear n0_ n1_ n2_ n3_ n4_ n5_;clear hb hbox hg;have hcz14_0:w13.cell? ⟨gb109,0,none⟩=some (.int .i8 0):=(blk_cell BK109.out 0).trans rfl;have hcz14_1:w13.cell? ⟨gb109,1,none⟩=some (.int .i64 0):=(blk_cell BK109.out 1).trans rfl;have hcz14_2:w13.cell? ⟨gb109,2,none⟩=some (.int .i64 0):=(blk_cell BK109.out 2).trans rfl;have hcz14_3:w13.cell? ⟨gb109,3,none⟩=some (.int .i64 0):=(blk_cell BK109.out 3).trans rfl;have hfz14_0:=blk_frozen BK109.out 0;have hfz14_1:=blk_frozen BK109.out 1;have hfz14_2:=blk_frozen BK109.out 2;have hfz14_3:=blk_frozen BK109.out 3)|((with_reducible refine gate_builtin (b:=.append) (xs:=#[.tmp 28,.tmp 30]) rfl ?_);at_builtin;refine Kd.R_append (Kd.int .i64) (w0:=w) w.heap.size rfl (.tmp 28) (.tmp 30) 34 2 (.int .i64 0) 8 rfl Tryz.underlying34 info2 rfl (by decide) (by omega) u6 x6_1 x20_1 [.int .i64 x20_1] (fun _=>True) (fun _=>False) rfl zq12 ?aP (fun _ hk=>hk.elim) ?aF ?aO ?aB ?aS ?aL ?_;(case aP=>exact rfl);(case aB=>exact zq76);(case aF=>exact (fun _ _=>trivial));(case aO=>exact (by (with_reducible repeat (first|apply Kd.R_alloc|apply Kd.R_drewN|apply Kd.R_drew));exact Kd.R_mono (Kd.R_far (p:=⟨gb109,3,none⟩) (Kd.R_far (p:=⟨gb109,2,none⟩) (Kd.R_far (p:=⟨gb109,1,none⟩) (Kd.R_far (p:=⟨gb109,0,none⟩) (Kd.R_types HO_6.out BK109.out (by decide)) (fun _ hk=>hk.2) (.int .i8 ((rd_T46 t101 x20_1).f0))) (fun _ hk=>hk.2) (.int .i64 ((rd_T46 t101 x20_1).f1))) (fun _ hk=>hk.2) (.int .i64 ((rd_T46 t101 x20_1).f2))) (fun _ hk=>hk.2) (.int .i64 ((rd_T46 t101 x20_1).f3))) (fun _ hk=>trivial)));(case aS=>exact (below_size zq76));(case aL=>have:=LMc12.out;omega);intro v111 w15 ho hb hg hat;rw [← Ny110.out] at ho;have n0_:=am (Kd.R_over' (by (with_reducible repeat (first|apply Kd.R_alloc|apply Kd.R_drewN|apply Kd.R_drew));exact (Kd.R_mono (Kd.R_far (p:=⟨gb109,3,none⟩) (Kd.R_far (p:=⟨gb109,2,none⟩) (Kd.R_far (p:=⟨gb109,1,none⟩) (Kd.R_far (p:=⟨gb109,0,none⟩) (Kd.R_mono HO_18.out (fun k_ hk=>(⟨hk,hk.2⟩:_∧k_≠gb109))) (fun _ hk=>hk.2) (.int .i8 ((rd_T46 t101 x20_1).f0))) (fun _ hk=>hk.2) (.int .i64 ((rd_T46 t101 x20_1).f1))) (fun _ hk=>hk.2) (.int .i64 ((rd_T46 t101 x20_1).f2))) (fun _ hk=>hk.2) (.int .i64 ((rd_T46 t101 x20_1).f3))) (fun _ h_=>h_.1))) (Kd.R_typed (by (with_reducible repeat (first|apply Kd.R_alloc|apply Kd.R_drewN|apply Kd.R_drew));exact (Kd.R_mono (Kd.R_far (p:=⟨gb109,3,none⟩) (Kd.R_far (p:=⟨gb109,2,none⟩) (Kd.R_far (p:=⟨gb109,1,none⟩) (Kd.R_far (p:=⟨gb109,0,none⟩) (Kd.R_types HO_6.out BK109.out (by decide)) (fun _ hk=>hk.2) (.int .i8 ((rd_T46 t101 x20_1).f0))) (fun _ hk=>hk.2) (.int .i64 ((rd_T46 t101 x20_1).f1))) (fun _ hk=>hk.2) (.int .i64 ((rd_T46 t101 x20_1).f2))) (fun _ hk=>hk.2) (.int .i64 ((rd_T46 t101 x20_1).f3))) (fun _ h_=>h_.1)))) (by decide) hg);have n1_:=am (blk_grown (g:=gb109) (o:=.cells #[.int .i8 ((rd_T46 t101 x20_1).f0),.int .i64 ((rd_T46 t101 x20_1).f1),.int .i64 ((rd_T46 t101 x20_1).f2),.int .i64 ((rd_T46 t101 x20_1).f3)] 46 (0,0)) (by (with_reducible repeat (first|refine blk_drewN ?_ _|refine blk_drew ?_|refine blk_alloc ?_ _));refine blk_put (cs:=#[.int .i8 ((rd_T46 t101 x20_1).f0),.int .i64 ((rd_T46 t101 x20_1).f1),.int .i64 ((rd_T46 t101 x20_1).f2),.int .i64 0]) ?_ 3 _ rfl;(with_reducible repeat (first|refine blk_drewN ?_ _|refine blk_drew ?_|refine blk_alloc ?_ _));refine blk_put (cs:=#[.int .i8 ((rd_T46 t101 x20_1).f0),.int .i64 ((rd_T46 t101 x20_1).f1),.int .i64 0,.int .i64 0]) ?_ 2 _ rfl;(with_reducible repeat (first|refine blk_drewN ?_ _|refine blk_drew ?_|refine blk_alloc ?_ _));refine blk_put (cs:=#[.int .i8 ((rd_T46 t101 x20_1).f0),.int .i64 0,.int .i64 0,.int .i64 0]) ?_ 1 _ rfl;(with_reducible repeat (first|refine blk_drewN ?_ _|refine blk_drew ?_|refine blk_alloc ?_ _));refine blk_put (cs:=#[.int .i8 0,.int .i64 0,.int .i64 0,.int .i64 0]) ?_ 0 _ rfl;(with_reducible repeat (first|refine blk_drewN ?_ _|refine blk_drew ?_|refine blk_alloc ?_ _));exact BK109.out) hg (Kd.R_ne HO_6.out BK109.out (by decide)));have n2_:=am (hb);have n3_:=am (ho);clear HO_18;clear BK109;clear HB;clear HO_6;have HO_18:=n0_;have BK109:=n1_;have HB:=n2_;have HO112:=n3_;clear n0_ n1_ n2_ n3_;clear ho hb hg hat))
         go_roundg k1
         case measure=>have:=HK1.out;omega
         case rel=>exact ⟨(y110),(wrap64 (x20_1 + 1)),zq3,H',⟨by have:=HK1.out;omega⟩,⟨by (with_reducible repeat (first|apply Kd.R_alloc|apply Kd.R_drewN|apply Kd.R_drew));exact HO112.out⟩,⟨by (with_reducible repeat (first|apply Kd.R_alloc|apply Kd.R_drewN|apply Kd.R_drew));exact Kd.R_mono HO_18.out (fun _ hk=>trivial)⟩,⟨by repeat (first|(with_reducible first|exact HB.out|apply below_alloc|apply pw_below_drewN|apply below_drew1|refine below_set ?_ GE109.out)|exact HB.out)⟩⟩
        ·rw [if_neg c12] at H;exact absurd H (by simp)
       ·rw [if_neg c11] at H;have c11b0:=decide_eq_false c11;clear c11;have H':=am H;clear H;have p108:0≤(x20_1:Int):=of_decide_eq_true zq2;have q108:x20_1 < (t101.length:Int):=of_decide_eq_true zq2;obtain ⟨ad108,e108,hx108_0,hx108_1,hx108_2,hx108_3⟩:=at_T46 (Kd.R_reads' HO_18.out).2.2 x20_1 p108 q108;cases e108;replace p108:=eq_true p108;replace q108:=eq_true q108
        go_wp2_with (first|((with_reducible refine gate_dst (N:=8) rfl ?_);refine box_event ?hg (N:=8) ?hd (cs:=#[.int .i8 0,.int .i64 0,.int .i64 0,.int .i64 0]) (t:=46) ?hr ?_;(case hd=>rfl);(case hg=>rfl);(case hr=>exact zq12);intro gb109 hg w16 hbox hb;have n0_:=am (Kd.R_below zq45 hb);have n1_:=am (Kd.R_below (Kd.R_elderB zq60 gb109 (Nat.le_of_eq hg.symm)) hb);have n2_:=am (below_step zq0 hb);have n3_:=am (hbox);have n4_:=am ((by rw [hg];exact (below_size zq0):w.heap.size≤gb109));have n5_:=am ((by rw [hg];exact (below_size zq0):w.heap.size≤gb109));clear HO_6;clear HO_18;clear HB;have HO_6:=n0_;have HO_18:=n1_;have HB:=n2_;have BK109:=n3_;have GW109:=n4_;have GE109:=n5_;clear n0_ n1_ n2_ n3_ n4_ n5_;clear hb hbox hg;have hcz17_0:w16.cell? ⟨gb109,0,none⟩=some (.int .i8 0):=(blk_cell BK109.out 0).trans rfl;have hcz17_1:w16.cell? ⟨gb109,1,none⟩=some (.int .i64 0):=(blk_cell BK109.out 1).trans rfl;have hcz17_2:w16.cell? ⟨gb109,2,none⟩=some (.int .i64 0):=(blk_cell BK109.out 2).trans rfl;have hcz17_3:w16.cell? ⟨gb109,3,none⟩=some (.int .i64 0):=(blk_cell BK109.out 3).trans rfl;have hfz17_0:=blk_frozen BK109.out 0;have hfz17_1:=blk_frozen BK109.out 1;have hfz17_2:=blk_frozen BK109.out 2;have hfz17_3:=blk_frozen BK109.out 3))
        go_roundg k1
        case measure=>have:=HK1.out;omega
        case rel=>exact ⟨(x6_1),(wrap64 (x20_1 + 1)),zq3,H',⟨by have:=HK1.out;omega⟩,⟨by (with_reducible repeat (first|apply Kd.R_alloc|apply Kd.R_drewN|apply Kd.R_drew));exact Kd.R_mono (Kd.R_far (p:=⟨gb109,3,none⟩) (Kd.R_far (p:=⟨gb109,2,none⟩) (Kd.R_far (p:=⟨gb109,1,none⟩) (Kd.R_far (p:=⟨gb109,0,none⟩) (Kd.R_types HO_6.out BK109.out (by decide)) (fun _ hk=>hk.2) (.int .i8 ((rd_T46 t101 x20_1).f0))) (fun _ hk=>hk.2) (.int .i64 ((rd_T46 t101 x20_1).f1))) (fun _ hk=>hk.2) (.int .i64 ((rd_T46 t101 x20_1).f2))) (fun _ hk=>hk.2) (.int .i64 ((rd_T46 t101 x20_1).f3))) (fun _ hk=>trivial)⟩,⟨by (with_reducible repeat (first|apply Kd.R_alloc|apply Kd.R_drewN|apply Kd.R_drew));exact Kd.R_mono (Kd.R_far (p:=⟨gb109,3,none⟩) (Kd.R_far (p:=⟨gb109,2,none⟩) (Kd.R_far (p:=⟨gb109,1,none⟩) (Kd.R_far (p:=⟨gb109,0,none⟩) (Kd.R_mono HO_18.out (fun k_ hk=>(⟨hk,hk.2⟩:_∧k_≠gb109))) (fun _ hk=>hk.2) (.int .i8 ((rd_T46 t101 x20_1).f0))) (fun _ hk=>hk.2) (.int .i64 ((rd_T46 t101 x20_1).f1))) (fun _ hk=>hk.2) (.int .i64 ((rd_T46 t101 x20_1).f2))) (fun _ hk=>hk.2) (.int .i64 ((rd_T46 t101 x20_1).f3))) (fun _ hk=>trivial)⟩,⟨by repeat (first|(with_reducible first|exact HB.out|apply below_alloc|apply pw_below_drewN|apply below_drew1|refine below_set ?_ GE109.out)|exact HB.out)⟩⟩
      ·rw [if_neg c10] at H;exact absurd H (by simp)
     ·rw [if_neg c9] at H;exact absurd H (by simp)
    ·rw [if_neg c8] at H;have c8b0:=decide_eq_false c8;clear c8;simp only [Option.some.injEq,Prod.mk.injEq] at H;obtain ⟨rfl,rfl⟩:=H
     go_wp2
     go_ret2
     exact ⟨_,by first|rfl|(simp [errW_none,errW_some,IntKind.wrap_i64,wrap64];done)|(simp [errW_none,errW_some] <;> rfl)|(simp [*,errW_none,errW_some] <;> rfl),by (with_reducible repeat (first|apply Kd.R_alloc|apply Kd.R_drewN|apply Kd.R_drew));exact HO_6.out,by repeat (first|(with_reducible first|exact HB.out|apply below_alloc|apply pw_below_drewN|apply below_drew1)|exact HB.out)⟩
 ·rw [if_neg c3] at H;have c3b0:=beq_eq_false_iff_ne.mpr c3;have c3b1:=bne_iff_ne.mpr c3;simp only [Option.some.injEq,Prod.mk.injEq] at H;obtain ⟨rfl,rfl⟩:=H
  go_enter Tryz.func11,Tryz.ntmps11
  go_wp2_with (first|((with_reducible refine gate_callee (f:=6) rfl ?_);refine goesL_ (some 11) rfl rfl Tryz.func6 zq19 rfl #[.slice A0 l0.length c0] rfl zq1 ?_;(with_reducible refine (impl_TimesOf.calls k _ _ l0 t101 t102 _ ?side1 ?side2 A2.out).mono ?_);(case side1=>exact zq4);(case side2=>exact HC0.out);rintro e w18 ⟨v103,rfl,ho0,hb⟩;refine ⟨_,rfl,?_⟩;have n0_:=am (Kd.R_lower ho0 (below_size zq0));have n1_:=am (below_step zq0 hb);clear HB;have HO104:=n0_;have HB:=n1_;clear n0_ n1_;(try clear hb);(try clear hb2);(try clear hk);(try clear hi);(try clear ho0)))
  go_ret2
  exact ⟨_,by first|rfl|(simp [errW_none,errW_some,IntKind.wrap_i64,wrap64];done)|(simp [errW_none,errW_some] <;> rfl)|(simp [*,errW_none,errW_some] <;> rfl),by first|exact Kd.R_nil _ _ _ _ _|exact Kd.N_nil _ _ _ _ _|exact Kd.V_nil _ _ _ _ _|exact Kd.Q_nil _ _ _ _ _|exact Kd.S_nil _ _ _ _ _,by repeat (first|(with_reducible first|exact HB.out|apply below_alloc|apply pw_below_drewN|apply below_drew1)|exact HB.out)⟩
def impl_unless.f (a0:Bool) (a1:Int):Option (Int):=if a0=true then (some 0) else (some a1)
set_option maxHeartbeats 8000000 in
set_option maxRecDepth 100000 in
theorem impl_unless.calls (a0:Bool) (a1:Int) (r:Int) (w:World) (h:impl_unless.f a0 a1=some r) :
  Calls Tryz.prog 58 #[.bool a0,.int .i64 a1] w fun e w'=>e=.returned (.int .i64 r)∧Drawn0 w w':=by
 have H:(if a0=true then (some 0) else (some a1))=some r:=h;clear h
 by_cases c3:a0=true
 ·subst c3
  have H1:(some 0)=some r:=by rw [if_pos rfl] at H;exact H
  clear H;have H:=H1;clear H1;obtain rfl:=Option.some.inj H
  go_enter Tryz.func58,Tryz.ntmps58
  go_wp2
  go_ret
  exact ⟨by first|rfl|(simp only [IntKind.wrap_i64,wrap64];done)|(simp;done)|(simp [*];done),by repeat (first|exact Drawn0.refl _|apply Drawn0.step)⟩
 ·replace c3:=Bool.eq_false_iff.mpr c3;subst c3
  have H1:(some a1)=some r:=by rw [if_neg (show ¬ (false=true) by decide)] at H;exact H
  clear H;have H:=H1;clear H1;obtain rfl:=Option.some.inj H
  go_enter Tryz.func58,Tryz.ntmps58
  go_wp2
  go_ret
  exact ⟨by first|rfl|(simp only [IntKind.wrap_i64,wrap64];done)|(simp;done)|(simp [*];done),by repeat (first|exact Drawn0.refl _|apply Drawn0.step)⟩
def impl_shipCode.f (l0:List (S52)) (a1:Int):Option (Int):=(impl_ValidLine.f l0).bind fun t101=>(if t101=true then ((impl_size_Ship.f l0).bind fun t102=>((impl_within.f a1 0 (wrap64 (t102 - 1))).bind fun t103=>((impl_unless.f t103 2).bind fun t104=>(some t104)))) else (some 1))
set_option maxHeartbeats 8000000 in
set_option maxRecDepth 100000 in
theorem impl_shipCode.calls (A0:Option Addr) (c0:Nat) (l0:List (S52)) (a1:Int) (r:Int) (w:World) (hr0:Kd.C k52 w A0 l0.length l0) (hc0:l0.length≤c0) (h:impl_shipCode.f l0 a1=some r) :
  Calls Tryz.prog 44 #[.slice A0 l0.length c0,.int .i64 a1] w fun e w'=>e=.returned (.int .i64 r)∧Below w.heap.size w w':=by
 have HR0:=am hr0;have HC0:=am hc0;clear hr0 hc0;have HB:=am (Below.refl w.heap.size w);have H:((impl_ValidLine.f l0).bind fun t101=>(if t101=true then ((impl_size_Ship.f l0).bind fun t102=>((impl_within.f a1 0 (wrap64 (t102 - 1))).bind fun t103=>((impl_unless.f t103 2).bind fun t104=>(some t104)))) else (some 1)))=some r:=h;clear h;replace H:=Option.bind_eq_some_iff.mp H;obtain ⟨t101,A30,H⟩:=H;replace H:(if t101=true then ((impl_size_Ship.f l0).bind fun t102=>((impl_within.f a1 0 (wrap64 (t102 - 1))).bind fun t103=>((impl_unless.f t103 2).bind fun t104=>(some t104)))) else (some 1))=some r:=H;have A3:=am A30;clear A30
 by_cases c4:t101=true
 ·subst c4
  have H1:((impl_size_Ship.f l0).bind fun t102=>((impl_within.f a1 0 (wrap64 (t102 - 1))).bind fun t103=>((impl_unless.f t103 2).bind fun t104=>(some t104))))=some r:=by rw [if_pos rfl] at H;exact H
  clear H;have H:=H1;clear H1;replace H:=Option.bind_eq_some_iff.mp H;obtain ⟨t102,A50,H⟩:=H;replace H:((impl_within.f a1 0 (wrap64 (t102 - 1))).bind fun t103=>((impl_unless.f t103 2).bind fun t104=>(some t104)))=some r:=H;have A5:=am A50;clear A50;replace H:=Option.bind_eq_some_iff.mp H;obtain ⟨t103,A60,H⟩:=H;replace H:((impl_unless.f t103 2).bind fun t104=>(some t104))=some r:=H;have A6:=am A60;clear A60;replace H:=Option.bind_eq_some_iff.mp H;obtain ⟨t104,A70,H⟩:=H;replace H:(some t104)=some r:=H;have A7:=am A70;clear A70;obtain rfl:=Option.some.inj H
  go_enter Tryz.func44,Tryz.ntmps44
  go_wp2_with (first|((with_reducible refine gate_callee (f:=19) rfl ?_);refine goesL_ (some 6) rfl rfl Tryz.func19 zq19 rfl #[.slice A0 l0.length c0] rfl zq1 ?_;(with_reducible refine (impl_ValidLine.calls _ _ l0 true _ ?side1 ?side2 A3.out).mono ?_);(case side1=>exact zq4);(case side2=>exact HC0.out);rintro e w8 ⟨rfl,hb⟩;refine ⟨_,rfl,?_⟩;have n0_:=am (below_step zq0 hb);clear HB;have HB:=n0_;clear n0_;(try clear hb);(try clear hb2);(try clear hk);(try clear hi))|((with_reducible refine gate_callee (f:=40) rfl ?_);refine goesL_ (some 10) rfl rfl Tryz.func40 zq19 rfl #[.slice A0 l0.length c0] rfl zq1 ?_;(with_reducible refine (impl_size_Ship.calls _ _ l0 t102 _ ?side1 ?side2 A5.out).mono ?_);(case side1=>exact zq11);(case side2=>exact HC0.out);rintro e w' ⟨rfl,⟨nd,rfl⟩⟩;refine ⟨_,rfl,?_⟩)|((with_reducible refine gate_callee (f:=39) rfl ?_);refine goesL_ (some 12) rfl rfl Tryz.func39 zq19 rfl #[.int .i64 a1,.int .i64 0,.int .i64 (wrap64 (t102 - 1))] rfl zq1 ?_;(with_reducible refine (impl_within.calls a1 0 (wrap64 (t102 - 1)) t103 _ A6.out).mono ?_);rintro e w' ⟨rfl,⟨nd,rfl⟩⟩;refine ⟨_,rfl,?_⟩)|((with_reducible refine gate_callee (f:=58) rfl ?_);refine goesL_ (some 13) rfl rfl Tryz.func58 zq19 rfl #[.bool t103,.int .i64 2] rfl zq1 ?_;(with_reducible refine (impl_unless.calls t103 2 t104 _ A7.out).mono ?_);rintro e w' ⟨rfl,⟨nd,rfl⟩⟩;refine ⟨_,rfl,?_⟩))
  go_ret
  exact ⟨by first|rfl|(simp [errW_none,errW_some,IntKind.wrap_i64,wrap64];done)|(simp [errW_none,errW_some] <;> rfl)|(simp [*,errW_none,errW_some] <;> rfl),by repeat (first|(with_reducible first|exact HB.out|apply below_alloc|apply pw_below_drewN|apply below_drew1)|exact HB.out)⟩
 ·replace c4:=Bool.eq_false_iff.mpr c4;subst c4
  have H1:(some 1)=some r:=by rw [if_neg (show ¬ (false=true) by decide)] at H;exact H
  clear H;have H:=H1;clear H1;obtain rfl:=Option.some.inj H
  go_enter Tryz.func44,Tryz.ntmps44
  go_wp2_with (first|((with_reducible refine gate_callee (f:=19) rfl ?_);refine goesL_ (some 6) rfl rfl Tryz.func19 zq19 rfl #[.slice A0 l0.length c0] rfl zq1 ?_;(with_reducible refine (impl_ValidLine.calls _ _ l0 false _ ?side1 ?side2 A3.out).mono ?_);(case side1=>exact zq4);(case side2=>exact HC0.out);rintro e w9 ⟨rfl,hb⟩;refine ⟨_,rfl,?_⟩;have n0_:=am (below_step zq0 hb);clear HB;have HB:=n0_;clear n0_;(try clear hb);(try clear hb2);(try clear hk);(try clear hi)))
  go_ret
  exact ⟨by first|rfl|(simp [errW_none,errW_some,IntKind.wrap_i64,wrap64];done)|(simp [errW_none,errW_some] <;> rfl)|(simp [*,errW_none,errW_some] <;> rfl),by repeat (first|(with_reducible first|exact HB.out|apply below_alloc|apply pw_below_drewN|apply below_drew1)|exact HB.out)⟩
def slices_Reverse_int64_int64.l0:Nat→List Int→Int→Int→Option (List Int)
 | 0,_,_,_=>none
 | k + 1,x0,x2,x3=>if x2 < x3 then (if 0≤x3 then (if x3 < (x0.length:Int) then (if 0≤x2 then (if x2 < (x0.length:Int) then (slices_Reverse_int64_int64.l0 k ((x0.set (x2:Int).toNat (rd x0 x3)).set (x3:Int).toNat (rd x0 x2)) (wrap64 (x2 + 1)) (wrap64 (x3 - 1))) else (none)) else (none)) else (none)) else (none)) else (some x0)
def slices_Reverse_int64_int64.f (k:Nat) (l0:List Int):Option (List Int):=slices_Reverse_int64_int64.l0 k l0 0 (wrap64 ((l0.length:Int) - 1))
def slices_Reverse_int64_int64.T3:Bool × List (List Nat × List Nat):=(true,[([],[]),([],[]),([],[]),([],[]),([],[]),([],[]),([4,5],[4,5]),([6],[6]),([],[]),([],[]),([8,9],[8,9]),([10],[10]),([0,1,0,1,4,5,6,7,11],[0,1]),([12,7,0,1,4,5,6,7,11],[7,12]),([2,3,0,1,2,3,4,5,6,7,8,9,10,11,12,13],[2,3]),([14,11,13,0,1,2,3,4,5,6,7,8,9,10,11,12,13],[11,14])])
def slices_Reverse_int64_int64.B3:List Nat:=[0,0,0,0,0,0,48,112,0,0,768,1792,4083,8179,16383,32767]
theorem slices_Reverse_int64_int64.tab3:rtab .any (opsOf Tryz.f45 3)=slices_Reverse_int64_int64.T3:=by kernel_rfl
theorem slices_Reverse_int64_int64.bits3:waitsOk slices_Reverse_int64_int64.T3.2 slices_Reverse_int64_int64.B3=true:=by kernel_rfl
set_option maxHeartbeats 8000000 in
set_option maxRecDepth 100000 in
theorem slices_Reverse_int64_int64.calls (k:Nat) (P0_:Nat→Prop) (u9000_:Value) (l0:List Int) (r:List Int) (w0 w:World) (hB:Below w0.heap.size w0 w) (ho0:Kd.R (Kd.int .i64) 2 w w0.heap.size P0_ u9000_ l0) (h:slices_Reverse_int64_int64.f k l0=some r) :
  Calls Tryz.prog 45 #[u9000_] w fun e w'=>e=.returned (.tuple #[])∧Kd.R (Kd.int .i64) 2 w' w0.heap.size (fun k_=>(P0_ k_∨w.heap.size≤k_)) u9000_ r∧Below w0.heap.size w0 w'∧Kept w w' (fun k_=>P0_ k_):=by
 have HO0:=am (show Kd.R (Kd.int .i64) 2 w w0.heap.size (fun k_=>(P0_ k_∨w.heap.size≤k_)) u9000_ l0 from Kd.R_mono ho0 (fun k_ hk=>(.inl hk)));have HK:=am (Kept.refl w (fun k_=>P0_ k_));have HW0:=am hB.size;have HB:=am hB;clear hB;have H:(slices_Reverse_int64_int64.l0 k l0 0 (wrap64 ((l0.length:Int) - 1)))=some r:=h;clear h;have H':=am H;clear H;obtain ⟨Ao2,co2,eo2⟩:=Kd.R_slice HO0.out;subst eo2
 go_enter Tryz.func45,Tryz.ntmps45
 go_wp2
 go_loopg [2,3] k (fun kq v2 v3 w'=>∃ (x0_1:List Int) (x2_1:Int) (x3_1:Int),v2=.int .i64 x2_1∧v3=.int .i64 x3_1∧Aside0 (slices_Reverse_int64_int64.l0 kq x0_1 x2_1 x3_1=some r)∧Aside0 (kq≤k)∧Aside0 (Kd.R (Kd.int .i64) 2 w' w0.heap.size (fun k_=>(P0_ k_∨w.heap.size≤k_)) (.slice Ao2 l0.length co2) x0_1)∧Aside0 (Kept w w' (fun k_=>P0_ k_))∧Aside0 (Below w0.heap.size w0 w'))
 case atStart=>exact ⟨(l0),(0),(wrap64 ((l0.length:Int) - 1)),zq3,zq3,H',⟨Nat.le_refl _⟩,⟨by (with_reducible repeat (first|apply Kd.R_alloc|apply Kd.R_drewN|apply Kd.R_drew));exact HO0.out⟩,⟨by repeat (first|(with_reducible first|exact HK.out|apply Kept.alloc|apply Kept.drewN|apply Kept.drew)|exact HK.out)⟩,⟨by repeat (first|(with_reducible first|exact HB.out|apply below_alloc|apply pw_below_drewN|apply below_drew1)|exact HB.out)⟩⟩
 case round =>
  clear H';(try clear p2);obtain ⟨x0_1,x2_1,x3_1,rfl,rfl,HA,HK1,HO_0,HK,HB⟩:=hrel;have hl0_1:=(Kd.R_reads' HO_0.out).1;rw [hl0_1] at HO_0;(try simp only [hl0_1])
  cases gk with
  | zero=>exact absurd HA.out (by simp [slices_Reverse_int64_int64.l0])
  | succ k1 =>
   have H:=HA.out;clear HA;simp only [slices_Reverse_int64_int64.l0] at H
   by_cases c3:x2_1 < x3_1
   ·rw [if_pos c3] at H;have c3b0:=decide_eq_true c3;clear c3
    by_cases c4:0≤x3_1
    ·rw [if_pos c4] at H;have c4b0:=decide_eq_true c4;clear c4
     by_cases c5:x3_1 < (x0_1.length:Int)
     ·rw [if_pos c5] at H;have c5b0:=decide_eq_true c5;clear c5
      by_cases c6:0≤x2_1
      ·rw [if_pos c6] at H;have c6b0:=decide_eq_true c6;clear c6
       by_cases c7:x2_1 < (x0_1.length:Int)
       ·rw [if_pos c7] at H;have c7b0:=decide_eq_true c7;clear c7;obtain ⟨y103,hy103⟩:∃ y_:List Int,y_=(x0_1.set (x2_1:Int).toNat (rd x0_1 x3_1)):=⟨_,rfl⟩
        replace H:(slices_Reverse_int64_int64.l0 k1 (y103.set (x3_1:Int).toNat (rd x0_1 x2_1)) (wrap64 (x2_1 + 1)) (wrap64 (x3_1 - 1)))=some r:=by first|(rw [hy103];with_reducible exact H)|(have H2_:=(Option.bind_some _ _).symm.trans H;rw [hy103];with_reducible exact H2_)|(have H2_:=(Option.bind_some _ _).symm.trans H;with_reducible exact H2_)|with_reducible exact H|(rw [hy103];exact H)|exact H
        have Ny103:=am hy103;clear hy103;obtain ⟨y104,hy104⟩:∃ y_:List Int,y_=(y103.set (x3_1:Int).toNat (rd x0_1 x2_1)):=⟨_,rfl⟩
        replace H:(slices_Reverse_int64_int64.l0 k1 y104 (wrap64 (x2_1 + 1)) (wrap64 (x3_1 - 1)))=some r:=by first|(rw [hy104];with_reducible exact H)|(have H2_:=(Option.bind_some _ _).symm.trans H;rw [hy104];with_reducible exact H2_)|(have H2_:=(Option.bind_some _ _).symm.trans H;with_reducible exact H2_)|with_reducible exact H|(rw [hy104];exact H)|exact H
        have Ny104:=am hy104;clear hy104;have H':=am H;clear H;(try go_wp2);have n0_:=am (Kd.R_drew HO_0.out);have n1_:=am (Kept.drew HK.out);have n2_:=am (below_drew1 HB.out);clear HO_0;clear HK;clear HB;have HO_0:=n0_;have HK:=n1_;have HB:=n2_;clear n0_ n1_ n2_;have p101:0≤(x3_1:Int):=of_decide_eq_true zq2;have q101:x3_1 < (x0_1.length:Int):=of_decide_eq_true zq2;obtain ⟨ad101,e101,hx101_0⟩:=Kd.at_int (Kd.R_reads' HO_0.out).2.2 x3_1 p101 q101;cases e101;replace p101:=eq_true p101;replace q101:=eq_true q101;have p102:0≤(x2_1:Int):=of_decide_eq_true zq2;have q102:x2_1 < (x0_1.length:Int):=of_decide_eq_true zq2;obtain ⟨ad102,e102,hx102_0⟩:=Kd.at_int (Kd.R_reads' HO_0.out).2.2 x2_1 p102 q102;obtain rfl:ad101=ad102:=(by injection e102);replace p102:=eq_true p102;replace q102:=eq_true q102;have p8:0≤(x2_1:Int):=of_decide_eq_true zq2;have q8:(x2_1:Int) < ((x0_1.length:Int):Int):=of_decide_eq_true zq2;obtain ⟨go8,co8,eo8,gb8,gl8,cl8,HG8⟩:=Kd.R_form HO_0.out (by omega);(first|cases eo8|(injection eo8 with ea_ en_ ec_;(first|subst ea_|(injection ea_ with ea_;subst ea_));subst ec_;clear en_));have GB8:=am gb8;have GG8:=am HG8;clear gb8 gl8 HG8;have HMgo8:=am (show (P0_ go8∨w.heap.size≤go8) from (HO_0.out.1 _ rfl));(first|simp only [add_plain] at hx101_0|skip);(first|simp only [add_plain] at hx102_0|skip);obtain ⟨hx8_0,hf8_0⟩:=Kd.R_celln 0 HO_0.out (x2_1:Int) p8 q8;replace p8:=eq_true p8;replace q8:=eq_true q8;have HP11:=Kd.R_putn HO_0.out (x2_1:Int) (rd x0_1 x3_1);rw [← Ny103.out] at HP11;have HQ11:=am HP11;clear HP11;have p9:0≤(x3_1:Int):=of_decide_eq_true zq2;have q9:(x3_1:Int) < ((x0_1.length:Int):Int):=of_decide_eq_true zq2;obtain ⟨hx9_0,hf9_0⟩:=Kd.R_celln 0 HQ11.out (x3_1:Int) p9 q9;replace p9:=eq_true p9;replace q9:=eq_true q9;have HP12:=Kd.R_putn HQ11.out (x3_1:Int) (rd x0_1 x2_1);rw [← Ny104.out] at HP12;have HQ12:=am HP12;clear HP12;refine start_ (n:=16) (S:=fun w'=>w'.cell? ⟨go8,(x3_1).toNat,none⟩=some (.int .i64 (rd x0_1 x3_1))∧w'.cell? ⟨go8,(x2_1).toNat,none⟩=some (.int .i64 (rd x0_1 x2_1))) (ds:=[13,15]) #[false,false,false,false,false,false,false,false,false,false,false,false,false,false,false,false] zq19 rfl rfl ⟨hx101_0,hx102_0⟩ (fun hHeld=>?_);refine with_tabW slices_Reverse_int64_int64.tab3 slices_Reverse_int64_int64.bits3 (fun HT_ HW_=>?_);generalize wr.drew=w10 at HO_0 HK HB GG8 HQ11 HQ12 hf8_0 hf9_0 hx101_0 hx102_0 hx8_0 hx9_0 hHeld ⊢;refine pw_ 0 14 ?_;refine pw_ 1 15 ?_;refine pw_ 2 16 ?_;refine pw_ 3 17 ?_;refine pw_ 4 18 ?_;refine pw_ 5 19 ?_;refine pw_ 6 20 ?_;refine pw_ 8 22 ?_;refine pw_ 9 23 ?_;refine pw_ 10 24 ?_;refine tw2_ 7 21 ?_;refine tw2_ 11 25 ?_;refine pw_ 12 26 ?_;refine last_ (i:=13) (N:=none) #[true,true,true,true,true,true,true,true,true,true,true,true,true,true,false,false] rfl rfl (one_of HT_.out zq19) (by decide) (fun K hK=>?_);refine skip_ (w1:=?_) (by rfl) rfl ?_ ?_;rotate_left
        ·go_simp;rfl
        refine hK.out _ _ ?_;clear hK K;refine pw_ 14 27 ?_;refine last_ (i:=15) (N:=none) #[true,true,true,true,true,true,true,true,true,true,true,true,true,true,true,true] rfl rfl (one_of HT_.out zq19) (by decide) (fun K hK=>?_);refine skip_ (w1:=?_) (by rfl) rfl ?_ ?_;rotate_left
        ·go_simp;rfl
        refine hK.out _ _ ?_;clear hK K;refine done_ (done_of HT_.out zq19) ?_;(try go_wp2);(try simp only [← hl0_1])
        go_roundg k1
        case measure=>have:=HK1.out;omega
        case rel=>exact ⟨(y104),(wrap64 (x2_1 + 1)),(wrap64 (x3_1 - 1)),zq3,zq3,H',⟨by have:=HK1.out;omega⟩,⟨by (try simp only [hl0_1]);(with_reducible repeat (first|apply Kd.R_alloc|apply Kd.R_drewN|apply Kd.R_drew));exact HQ12.out⟩,⟨by repeat (first|(with_reducible first|exact HK.out|apply Kept.alloc|apply Kept.drewN|apply Kept.drew|refine Kept.setCell ?_ HMgo8.out _|refine Kept.setCell ?_ HMgo8.out _)|exact HK.out)⟩,⟨by repeat (first|(with_reducible first|exact HB.out|apply below_alloc|apply pw_below_drewN|apply below_drew1|refine below_set ?_ GB8.out|refine below_set ?_ GB8.out)|exact HB.out)⟩⟩
       ·rw [if_neg c7] at H;exact absurd H (by simp)
      ·rw [if_neg c6] at H;exact absurd H (by simp)
     ·rw [if_neg c5] at H;exact absurd H (by simp)
    ·rw [if_neg c4] at H;exact absurd H (by simp)
   ·rw [if_neg c3] at H;have c3b0:=decide_eq_false c3;clear c3;obtain rfl:=Option.some.inj H
    go_wp2
    first|go_end0|((try simp only [Exit.inBlock,Exit.then]);refine bodyPost_ret (results_none rfl _ _ _) rfl ?_)
    exact ⟨by first|rfl|(simp [errW_none,errW_some,IntKind.wrap_i64,wrap64];done)|(simp [errW_none,errW_some] <;> rfl)|(simp [*,errW_none,errW_some] <;> rfl),(by first|exact (by (with_reducible repeat (first|apply Kd.R_alloc|apply Kd.R_drewN|apply Kd.R_drew));exact HO_0.out)|(simp only [hl0_1];exact (by (with_reducible repeat (first|apply Kd.R_alloc|apply Kd.R_drewN|apply Kd.R_drew));exact HO_0.out))),by repeat (first|(with_reducible first|exact HB.out|apply below_alloc|apply pw_below_drewN|apply below_drew1)|exact HB.out),by repeat (first|(with_reducible first|exact HK.out|apply Kept.alloc|apply Kept.drewN|apply Kept.drew)|exact HK.out)⟩
def impl_WayToShip.l0:Nat→Int→List (S46)→List Int→Option (List Int × Int)
 | 0,_,_,_=>none
 | k + 1,x1,x7,x8=>if x1 > 0 then (if 0≤x1 then (if x1 < (x7.length:Int) then (if x8.length < 17592186044416 then (impl_WayToShip.l0 k (wrap64 ((rd_T46 x7 x1).f0)) x7 (x8 ++ [wrap64 ((rd_T46 x7 x1).f0)])) else (none)) else (none)) else (none)) else ((slices_Reverse_int64_int64.f k x8).bind fun t113=>(some (t113,0)))
def impl_WayToShip.f (k:Nat) (l0:List (S52)) (a1:Int):Option (List Int × Int):=(impl_shipCode.f l0 a1).bind fun t101=>(if t101=0 then ((impl_times.f k l0).bind fun t102=>(if 0≤a1 then (if a1 < (t102.length:Int) then (if ((rd_T46 t102 a1).f2) < 0 then (some (([]:List Int),6)) else (impl_WayToShip.l0 k a1 t102 (([a1]:List Int)))) else (none)) else (none))) else (some (([]:List Int),t101)))
set_option maxHeartbeats 8000000 in
set_option maxRecDepth 100000 in
theorem impl_WayToShip.calls (k:Nat) (A0:Option Addr) (c0:Nat) (l0:List (S52)) (a1:Int) (r1:List Int) (r2:Int) (w:World) (hr0:Kd.C k52 w A0 l0.length l0) (hc0:l0.length≤c0) (h:impl_WayToShip.f k l0 a1=some (r1,r2)) :
  Calls Tryz.prog 22 #[.slice A0 l0.length c0,.int .i64 a1] w fun e w'=>∃ v0_:Value,e=.returned (.tuple #[v0_,.int .i64 r2])∧Kd.R (Kd.int .i64) 2 w' w.heap.size (fun _=>True) v0_ r1∧Below w.heap.size w w':=by
 have HR0:=am hr0;have HC0:=am hc0;clear hr0 hc0;have HB:=am (Below.refl w.heap.size w);have H:((impl_shipCode.f l0 a1).bind fun t101=>(if t101=0 then ((impl_times.f k l0).bind fun t102=>(if 0≤a1 then (if a1 < (t102.length:Int) then (if ((rd_T46 t102 a1).f2) < 0 then (some (([]:List Int),6)) else (impl_WayToShip.l0 k a1 t102 (([a1]:List Int)))) else (none)) else (none))) else (some (([]:List Int),t101))))=some (r1,r2):=h;clear h;replace H:=Option.bind_eq_some_iff.mp H;obtain ⟨t101,A30,H⟩:=H;replace H:(if t101=0 then ((impl_times.f k l0).bind fun t102=>(if 0≤a1 then (if a1 < (t102.length:Int) then (if ((rd_T46 t102 a1).f2) < 0 then (some (([]:List Int),6)) else (impl_WayToShip.l0 k a1 t102 (([a1]:List Int)))) else (none)) else (none))) else (some (([]:List Int),t101)))=some (r1,r2):=H;have A3:=am A30;clear A30
 by_cases c4:t101=0
 ·rw [if_pos c4] at H;have c4b0:=beq_iff_eq.mpr c4;have c4b1:=bne_eq_false_iff_eq.mpr c4;clear c4;replace H:=Option.bind_eq_some_iff.mp H;obtain ⟨t102,A50,H⟩:=H;replace H:(if 0≤a1 then (if a1 < (t102.length:Int) then (if ((rd_T46 t102 a1).f2) < 0 then (some (([]:List Int),6)) else (impl_WayToShip.l0 k a1 t102 (([a1]:List Int)))) else (none)) else (none))=some (r1,r2):=H;have A5:=am A50;clear A50
  by_cases c6:0≤a1
  ·rw [if_pos c6] at H;have c6b0:=decide_eq_true c6;clear c6
   by_cases c7:a1 < (t102.length:Int)
   ·rw [if_pos c7] at H;have c7b0:=decide_eq_true c7;clear c7
    by_cases c8:((rd_T46 t102 a1).f2) < 0
    ·rw [if_pos c8] at H;have c8b0:=decide_eq_true c8;clear c8;simp only [Option.some.injEq,Prod.mk.injEq] at H;obtain ⟨rfl,rfl⟩:=H
     go_enter Tryz.func22,Tryz.ntmps22
     go_wp2_with (first|((with_reducible refine gate_callee (f:=44) rfl ?_);refine goesL_ (some 11) rfl rfl Tryz.func44 zq19 rfl #[.slice A0 l0.length c0,.int .i64 a1] rfl zq1 ?_;(with_reducible refine (impl_shipCode.calls _ _ l0 a1 t101 _ ?side1 ?side2 A3.out).mono ?_);(case side1=>exact zq4);(case side2=>exact HC0.out);rintro e w9 ⟨rfl,hb⟩;refine ⟨_,rfl,?_⟩;have n0_:=am (below_step zq0 hb);clear HB;have HB:=n0_;clear n0_;(try clear hb);(try clear hb2);(try clear hk);(try clear hi))|((with_reducible refine gate_callee (f:=27) rfl ?_);refine goesL_ (some 16) rfl rfl Tryz.func27 zq19 rfl #[.slice A0 l0.length c0] rfl zq1 ?_;(with_reducible refine (impl_times.calls k _ _ l0 t102 _ ?side1 ?side2 A5.out).mono ?_);(case side1=>exact zq11);(case side2=>exact HC0.out);rintro e w10 ⟨v103,rfl,ho0,hb⟩;refine ⟨_,rfl,?_⟩;have n0_:=am (Kd.R_lower ho0 (below_size zq0));have n1_:=am (below_step zq0 hb);clear HB;have HO104:=n0_;have HB:=n1_;clear n0_ n1_;(try clear hb);(try clear hb2);(try clear hk);(try clear hi);(try clear ho0);obtain ⟨Ao11,co11,eo11⟩:=Kd.R_slice HO104.out;subst eo11;have p105:0≤(a1:Int):=of_decide_eq_true zq2;have q105:a1 < (t102.length:Int):=of_decide_eq_true zq2;obtain ⟨ad105,e105,hx105_0,hx105_1,hx105_2,hx105_3⟩:=at_T46 (Kd.R_reads' HO104.out).2.2 a1 p105 q105;cases e105;replace p105:=eq_true p105;replace q105:=eq_true q105))
     go_ret2
     exact ⟨_,by first|rfl|(simp [errW_none,errW_some,IntKind.wrap_i64,wrap64];done)|(simp [errW_none,errW_some] <;> rfl)|(simp [*,errW_none,errW_some] <;> rfl),by first|exact Kd.R_nil _ _ _ _ _|exact Kd.N_nil _ _ _ _ _|exact Kd.V_nil _ _ _ _ _|exact Kd.Q_nil _ _ _ _ _|exact Kd.S_nil _ _ _ _ _,by repeat (first|(with_reducible first|exact HB.out|apply below_alloc|apply pw_below_drewN|apply below_drew1)|exact HB.out)⟩
    ·rw [if_neg c8] at H;have c8b0:=decide_eq_false c8;clear c8;obtain ⟨y106,hy106⟩:∃ y_:List Int,y_=(([a1]:List Int)):=⟨_,rfl⟩
     replace H:(impl_WayToShip.l0 k a1 t102 y106)=some (r1,r2):=by first|(rw [hy106];with_reducible exact H)|(have H2_:=(Option.bind_some _ _).symm.trans H;rw [hy106];with_reducible exact H2_)|(have H2_:=(Option.bind_some _ _).symm.trans H;with_reducible exact H2_)|with_reducible exact H|(rw [hy106];exact H)|exact H
     have Ny106:=am hy106;clear hy106;have H':=am H;clear H
     go_enter Tryz.func22,Tryz.ntmps22
     go_wp2_with (first|((with_reducible refine gate_callee (f:=44) rfl ?_);refine goesL_ (some 11) rfl rfl Tryz.func44 zq19 rfl #[.slice A0 l0.length c0,.int .i64 a1] rfl zq1 ?_;(with_reducible refine (impl_shipCode.calls _ _ l0 a1 t101 _ ?side1 ?side2 A3.out).mono ?_);(case side1=>exact zq4);(case side2=>exact HC0.out);rintro e w12 ⟨rfl,hb⟩;refine ⟨_,rfl,?_⟩;have n0_:=am (below_step zq0 hb);clear HB;have HB:=n0_;clear n0_;(try clear hb);(try clear hb2);(try clear hk);(try clear hi))|((with_reducible refine gate_callee (f:=27) rfl ?_);refine goesL_ (some 16) rfl rfl Tryz.func27 zq19 rfl #[.slice A0 l0.length c0] rfl zq1 ?_;(with_reducible refine (impl_times.calls k _ _ l0 t102 _ ?side1 ?side2 A5.out).mono ?_);(case side1=>exact zq11);(case side2=>exact HC0.out);rintro e w13 ⟨v103,rfl,ho0,hb⟩;refine ⟨_,rfl,?_⟩;have n0_:=am (Kd.R_lower ho0 (below_size zq0));have n1_:=am (below_step zq0 hb);clear HB;have HO104:=n0_;have HB:=n1_;clear n0_ n1_;(try clear hb);(try clear hb2);(try clear hk);(try clear hi);(try clear ho0);obtain ⟨Ao14,co14,eo14⟩:=Kd.R_slice HO104.out;subst eo14;have p105:0≤(a1:Int):=of_decide_eq_true zq2;have q105:a1 < (t102.length:Int):=of_decide_eq_true zq2;obtain ⟨ad105,e105,hx105_0,hx105_1,hx105_2,hx105_3⟩:=at_T46 (Kd.R_reads' HO104.out).2.2 a1 p105 q105;cases e105;replace p105:=eq_true p105;replace q105:=eq_true q105)|((with_reducible refine gate_dst (N:=24) rfl ?_);refine Kd.R_lit (Kd.int .i64) _ 2 ?hg (N:=24) ?hd (xs:=([a1]:List Int)) (inner:=[.int .i64 a1]) (ok:=fun _=>True) (okp:=fun _=>True) ?hr ?hp (fun _ hk=>hk) trivial (Below.refl _ _) (Nat.le_refl _) (by simp) ?_;(case hd=>rfl);(case hg=>rfl);(case hr=>exact zq12);(case hp=>exact (Reps.one (show Kd.M (Kd.int .i64) _ _ _ a1 [.int .i64 a1] from rfl) (Reps.none _ _)));intro v107 w15 ho16 hb hg_ hnew_;clear hg_ hnew_;(first|rw [← Ny106.out] at ho16|(simp only [Int.reduceToNat] at ho16;rw [← Ny106.out] at ho16));have n0_:=am (Kd.R_below zq15 hb);have n1_:=am (Kd.R_lower ho16 (below_size zq0));have n2_:=am (below_step zq0 hb);clear HO104;clear HB;have HO104:=n0_;have HO108:=n1_;have HB:=n2_;clear n0_ n1_ n2_;clear hb ho16))
     go_loopg [1,8] k (fun kq v1 v8 w'=>∃ (x1_1:Int) (x8_1:List Int),v1=.int .i64 x1_1∧Aside0 (impl_WayToShip.l0 kq x1_1 t102 x8_1=some (r1,r2))∧Aside0 (kq≤k)∧Aside0 (Kd.R k46 46 w' w.heap.size (fun _=>True) (.slice (some ad105) t102.length co14) t102)∧Aside0 (Kd.R (Kd.int .i64) 2 w' w.heap.size (fun _=>True) v8 x8_1)∧Aside0 (Below w.heap.size w w'))
     case atStart=>exact ⟨(a1),(y106),zq3,H',⟨Nat.le_refl _⟩,⟨by (with_reducible repeat (first|apply Kd.R_alloc|apply Kd.R_drewN|apply Kd.R_drew));exact HO104.out⟩,⟨by (with_reducible repeat (first|apply Kd.R_alloc|apply Kd.R_drewN|apply Kd.R_drew));exact HO108.out⟩,⟨by repeat (first|(with_reducible first|exact HB.out|apply below_alloc|apply pw_below_drewN|apply below_drew1)|exact HB.out)⟩⟩
     case round =>
      clear H';(try clear p1);(try clear q1);(try clear hx1);(try clear c2);(try clear p2);(try clear c4);(try clear c4b0);(try clear c4b1);(try clear c6);(try clear c6b0);(try clear c7);(try clear c7b0);(try clear c8);(try clear c8b0);(try clear p10);(try clear q10);(try clear hx10);(try clear hx105_0);(try clear hx105_1);(try clear hx105_2);(try clear hx105_3);(try clear p105);(try clear q105);obtain ⟨x1_1,x8_1,rfl,HA,HK1,HO_7,HO_8,HB⟩:=hrel
      cases gk with
      | zero=>exact absurd HA.out (by simp [impl_WayToShip.l0])
      | succ k1 =>
       have H:=HA.out;clear HA;simp only [impl_WayToShip.l0] at H
       by_cases c17:x1_1 > 0
       ·rw [if_pos c17] at H;have c17b0:decide (0 < x1_1)=true:=decide_eq_true c17;clear c17
        by_cases c18:0≤x1_1
        ·rw [if_pos c18] at H;have c18b0:=decide_eq_true c18;clear c18
         by_cases c19:x1_1 < (t102.length:Int)
         ·rw [if_pos c19] at H;have c19b0:=decide_eq_true c19;clear c19
          by_cases c20:x8_1.length < 17592186044416
          ·rw [if_pos c20] at H;have LMc20:=am c20;clear c20;obtain ⟨y110,hy110⟩:∃ y_:List Int,y_=(x8_1 ++ [wrap64 ((rd_T46 t102 x1_1).f0)]):=⟨_,rfl⟩
           replace H:(impl_WayToShip.l0 k1 (wrap64 ((rd_T46 t102 x1_1).f0)) t102 y110)=some (r1,r2):=by first|(rw [hy110];with_reducible exact H)|(have H2_:=(Option.bind_some _ _).symm.trans H;rw [hy110];with_reducible exact H2_)|(have H2_:=(Option.bind_some _ _).symm.trans H;with_reducible exact H2_)|with_reducible exact H|(rw [hy110];exact H)|exact H
           have Ny110:=am hy110;clear hy110;have H':=am H;clear H;have p109:0≤(x1_1:Int):=of_decide_eq_true zq2;have q109:x1_1 < (t102.length:Int):=of_decide_eq_true zq2;obtain ⟨ad109,e109,hx109_0,hx109_1,hx109_2,hx109_3⟩:=at_T46 (Kd.R_reads' HO_7.out).2.2 x1_1 p109 q109;obtain rfl:ad105=ad109:=(by injection e109);replace p109:=eq_true p109;replace q109:=eq_true q109
           go_wp2_with (first|((with_reducible refine gate_builtin (b:=.append) (xs:=#[.tmp 33,.tmp 35]) rfl ?_);at_builtin;refine Kd.R_append (Kd.int .i64) (w0:=w) w.heap.size rfl (.tmp 33) (.tmp 35) 34 2 (.int .i64 0) 8 rfl Tryz.underlying34 info2 rfl (by decide) (by omega) u8 x8_1 (wrap64 ((rd_T46 t102 x1_1).f0)) [.int .i64 (wrap64 ((rd_T46 t102 x1_1).f0))] (fun _=>True) (fun _=>False) rfl rfl ?aP (fun _ hk=>hk.elim) ?aF ?aO ?aB ?aS ?aL ?_;(case aP=>exact rfl);(case aB=>exact zq0);(case aF=>exact (fun _ _=>trivial));(case aO=>exact zq30);(case aS=>exact (below_size zq0));(case aL=>have:=LMc20.out;omega);intro v111 w21 ho hb hg hat;rw [← Ny110.out] at ho;have n0_:=am (Kd.R_over' zq18 (Kd.R_typed zq30) (by decide) hg);have n1_:=am (hb);have n2_:=am (ho);clear HO_7;clear HB;clear HO_8;have HO_7:=n0_;have HB:=n1_;have HO112:=n2_;clear n0_ n1_ n2_;clear ho hb hg hat))
           go_roundg k1
           case measure=>have:=HK1.out;omega
           case rel=>exact ⟨(wrap64 ((rd_T46 t102 x1_1).f0)),(y110),zq3,H',⟨by have:=HK1.out;omega⟩,⟨by (with_reducible repeat (first|apply Kd.R_alloc|apply Kd.R_drewN|apply Kd.R_drew));exact HO_7.out⟩,⟨by (with_reducible repeat (first|apply Kd.R_alloc|apply Kd.R_drewN|apply Kd.R_drew));exact HO112.out⟩,⟨by repeat (first|(with_reducible first|exact HB.out|apply below_alloc|apply pw_below_drewN|apply below_drew1)|exact HB.out)⟩⟩
          ·rw [if_neg c20] at H;exact absurd H (by simp)
         ·rw [if_neg c19] at H;exact absurd H (by simp)
        ·rw [if_neg c18] at H;exact absurd H (by simp)
       ·rw [if_neg c17] at H;have c17b0:decide (0 < x1_1)=false:=decide_eq_false c17;clear c17;replace H:=Option.bind_eq_some_iff.mp H;obtain ⟨t113,A220,H⟩:=H;replace H:(some (t113,0))=some (r1,r2):=H;have A22:=am A220;clear A220;simp only [Option.some.injEq,Prod.mk.injEq] at H;obtain ⟨rfl,rfl⟩:=H;obtain ⟨Ao23,co23,eo23⟩:=Kd.R_slice HO_8.out;subst eo23
        go_wp2_with (first|((with_reducible refine gate_callee (f:=45) rfl ?_);refine goesL_ (some 38) rfl rfl Tryz.func45 zq19 rfl #[.slice Ao23 x8_1.length co23] rfl zq1 ?_;(with_reducible refine (slices_Reverse_int64_int64.calls k1 (fun k_=>some k_=(.slice Ao23 x8_1.length co23:Value).ownBlock) (.slice Ao23 x8_1.length co23) x8_1 t113 w _ ?side1 ?side2 A22.out).mono ?_);(case side1=>exact zq0);(case side2=>exact Kd.R_tight rfl HO_8.out);rintro e w24 ⟨rfl,hy0,hb,hkp⟩;refine ⟨_,rfl,?_⟩;have n0_:=am (Kd.R_mono (ok':=fun k_=>True) (Kd.R_keptB ((Kd.R_apart' HO_7.out (Kd.R_typed HO_8.out) (by decide))) hkp (fun k_ hk_ hs_=>(hk_.2) hs_)) (fun k_ hk_=>trivial));have n1_:=am (Kd.R_reok rfl hy0 (fun k_ e_=>HO_8.out.1 k_ e_));have n2_:=am (hb);clear HO_7;clear HO_8;clear HB;have HO_7:=n0_;have HO_8:=n1_;have HB:=n2_;clear n0_ n1_ n2_;(try clear hb);(try clear hkp);(try clear hy0)))
        go_ret2
        exact ⟨_,by first|rfl|(simp [errW_none,errW_some,IntKind.wrap_i64,wrap64];done)|(simp [errW_none,errW_some] <;> rfl)|(simp [*,errW_none,errW_some] <;> rfl),by (with_reducible repeat (first|apply Kd.R_alloc|apply Kd.R_drewN|apply Kd.R_drew));exact HO_8.out,by repeat (first|(with_reducible first|exact HB.out|apply below_alloc|apply pw_below_drewN|apply below_drew1)|exact HB.out)⟩
   ·rw [if_neg c7] at H;exact absurd H (by simp)
  ·rw [if_neg c6] at H;exact absurd H (by simp)
 ·rw [if_neg c4] at H;have c4b0:=beq_eq_false_iff_ne.mpr c4;have c4b1:=bne_iff_ne.mpr c4;simp only [Option.some.injEq,Prod.mk.injEq] at H;obtain ⟨rfl,rfl⟩:=H
  go_enter Tryz.func22,Tryz.ntmps22
  go_wp2_with (first|((with_reducible refine gate_callee (f:=44) rfl ?_);refine goesL_ (some 11) rfl rfl Tryz.func44 zq19 rfl #[.slice A0 l0.length c0,.int .i64 a1] rfl zq1 ?_;(with_reducible refine (impl_shipCode.calls _ _ l0 a1 t101 _ ?side1 ?side2 A3.out).mono ?_);(case side1=>exact zq4);(case side2=>exact HC0.out);rintro e w25 ⟨rfl,hb⟩;refine ⟨_,rfl,?_⟩;have n0_:=am (below_step zq0 hb);clear HB;have HB:=n0_;clear n0_;(try clear hb);(try clear hb2);(try clear hk);(try clear hi)))
  go_ret2
  exact ⟨_,by first|rfl|(simp [errW_none,errW_some,IntKind.wrap_i64,wrap64];done)|(simp [errW_none,errW_some] <;> rfl)|(simp [*,errW_none,errW_some] <;> rfl),by first|exact Kd.R_nil _ _ _ _ _|exact Kd.N_nil _ _ _ _ _|exact Kd.V_nil _ _ _ _ _|exact Kd.Q_nil _ _ _ _ _|exact Kd.S_nil _ _ _ _ _,by repeat (first|(with_reducible first|exact HB.out|apply below_alloc|apply pw_below_drewN|apply below_drew1)|exact HB.out)⟩
def laws_a2At.f (l0:List Int) (a1:Int) (a2:Int):Option (Int):=if a1≥(l0.length:Int) then (some 0) else (if a2 < 1 then (some 0) else (if 0≤a1 then (if a1 < (l0.length:Int) then (if a2=0 then (none) else (some (Int.tmod (wrap64 (rd l0 a1)) a2))) else (none)) else (none)))
set_option maxHeartbeats 8000000 in
set_option maxRecDepth 100000 in
theorem laws_a2At.calls (A0:Option Addr) (c0:Nat) (l0:List Int) (a1:Int) (a2:Int) (r:Int) (w:World) (hr0:Kd.C (Kd.int .u8) w A0 l0.length l0) (hc0:l0.length≤c0) (h:laws_a2At.f l0 a1 a2=some r) :
  Calls Tryz.prog 21 #[.slice A0 l0.length c0,.int .i64 a1,.int .i64 a2] w fun e w'=>e=.returned (.int .i64 r)∧Drawn0 w w':=by
 have HR0:=am hr0;have HC0:=am hc0;clear hr0 hc0;have H:(if a1≥(l0.length:Int) then (some 0) else (if a2 < 1 then (some 0) else (if 0≤a1 then (if a1 < (l0.length:Int) then (if a2=0 then (none) else (some (Int.tmod (wrap64 (rd l0 a1)) a2))) else (none)) else (none))))=some r:=h;clear h
 by_cases c4:a1≥(l0.length:Int)
 ·rw [if_pos c4] at H;have c4b0:decide ((l0.length:Int)≤a1)=true:=decide_eq_true c4;clear c4;obtain rfl:=Option.some.inj H
  go_enter Tryz.func21,Tryz.ntmps21
  go_wp2
  go_ret
  exact ⟨by first|rfl|(simp only [IntKind.wrap_i64,wrap64];done)|(simp;done)|(simp [*];done),by repeat (first|exact Drawn0.refl _|apply Drawn0.step)⟩
 ·rw [if_neg c4] at H;have c4b0:decide ((l0.length:Int)≤a1)=false:=decide_eq_false c4;clear c4
  by_cases c5:a2 < 1
  ·rw [if_pos c5] at H;have c5b0:=decide_eq_true c5;clear c5;obtain rfl:=Option.some.inj H
   go_enter Tryz.func21,Tryz.ntmps21
   go_wp2
   go_ret
   exact ⟨by first|rfl|(simp only [IntKind.wrap_i64,wrap64];done)|(simp;done)|(simp [*];done),by repeat (first|exact Drawn0.refl _|apply Drawn0.step)⟩
  ·rw [if_neg c5] at H;have c5b0:=decide_eq_false c5;clear c5
   by_cases c6:0≤a1
   ·rw [if_pos c6] at H;have c6b0:=decide_eq_true c6;clear c6
    by_cases c7:a1 < (l0.length:Int)
    ·rw [if_pos c7] at H;have c7b0:=decide_eq_true c7;clear c7
     by_cases c8:a2=0
     ·rw [if_pos c8] at H;exact absurd H (by simp)
     ·rw [if_neg c8] at H;have c8b0:=beq_eq_false_iff_ne.mpr c8;have c8b1:=bne_iff_ne.mpr c8;obtain rfl:=Option.some.inj H;have p101:0≤(a1:Int):=of_decide_eq_true zq2;have q101:a1 < (l0.length:Int):=of_decide_eq_true zq2;obtain ⟨ad101,e101,hx101_0⟩:=Kd.at_int HR0.out a1 p101 q101;cases e101;replace p101:=eq_true p101;replace q101:=eq_true q101
      go_enter Tryz.func21,Tryz.ntmps21
      go_wp2
      go_ret
      exact ⟨by first|rfl|(simp only [IntKind.wrap_i64,wrap64];done)|(simp;done)|(simp [*];done),by repeat (first|exact Drawn0.refl _|apply Drawn0.step)⟩
    ·rw [if_neg c7] at H;exact absurd H (by simp)
   ·rw [if_neg c6] at H;exact absurd H (by simp)
def laws_a2Long.f (l0:List Int) (l1:List Int):Option (Bool):=if (l0.length:Int) > 3000 then (some true) else (some (decide ((l1.length:Int) > 3000)))
set_option maxHeartbeats 8000000 in
set_option maxRecDepth 100000 in
theorem laws_a2Long.calls (A0:Option Addr) (c0:Nat) (l0:List Int) (A1:Option Addr) (c1:Nat) (l1:List Int) (r:Bool) (w:World) (hr0:Kd.C (Kd.int .u8) w A0 l0.length l0) (hc0:l0.length≤c0) (hr1:Kd.C (Kd.int .u8) w A1 l1.length l1) (hc1:l1.length≤c1) (h:laws_a2Long.f l0 l1=some r) :
  Calls Tryz.prog 4 #[.slice A0 l0.length c0,.slice A1 l1.length c1] w fun e w'=>e=.returned (.bool r)∧Drawn0 w w':=by
 have HR0:=am hr0;have HC0:=am hc0;clear hr0 hc0;have HR1:=am hr1;have HC1:=am hc1;clear hr1 hc1;have H:(if (l0.length:Int) > 3000 then (some true) else (some (decide ((l1.length:Int) > 3000))))=some r:=h;clear h
 by_cases c3:(l0.length:Int) > 3000
 ·rw [if_pos c3] at H;have c3b0:decide (3000 < (l0.length:Int))=true:=decide_eq_true c3;have c3b1:decide (3000 < l0.length)=true:=decide_eq_true (by omega);clear c3;obtain rfl:=Option.some.inj H
  go_enter Tryz.func4,Tryz.ntmps4
  go_wp2
  go_ret
  exact ⟨by first|rfl|(simp only [IntKind.wrap_i64,wrap64];done)|(simp;done)|(simp [*];done),by repeat (first|exact Drawn0.refl _|apply Drawn0.step)⟩
 ·rw [if_neg c3] at H;have c3b0:decide (3000 < (l0.length:Int))=false:=decide_eq_false c3;have c3b1:decide (3000 < l0.length)=false:=decide_eq_false (by omega);clear c3;obtain rfl:=Option.some.inj H
  go_enter Tryz.func4,Tryz.ntmps4
  go_wp2
  go_ret
  exact ⟨by first|rfl|(simp only [IntKind.wrap_i64,wrap64];done)|(simp;done)|(simp [*];done),by repeat (first|exact Drawn0.refl _|apply Drawn0.step)⟩
def spec_A2Has.l0:Nat→List Int→Int→Int→Option (Bool)
 | 0,_,_,_=>none
 | k + 1,x0,x1,x5=>if x5 < (x0.length:Int) then (if 0≤x5 then (if (rd x0 x5)=x1 then (some true) else (spec_A2Has.l0 k x0 x1 (wrap64 (x5 + 1)))) else (none)) else (some false)
def spec_A2Has.f (k:Nat) (l0:List Int) (a1:Int):Option (Bool):=spec_A2Has.l0 k l0 a1 0
set_option maxHeartbeats 8000000 in
set_option maxRecDepth 100000 in
theorem spec_A2Has.calls (k:Nat) (A0:Option Addr) (c0:Nat) (l0:List Int) (a1:Int) (r:Bool) (w:World) (hr0:Kd.C (Kd.int .i64) w A0 l0.length l0) (hc0:l0.length≤c0) (h:spec_A2Has.f k l0 a1=some r) :
  Calls Tryz.prog 23 #[.slice A0 l0.length c0,.int .i64 a1] w fun e w'=>e=.returned (.bool r)∧Drawn0 w w':=by
 have HR0:=am hr0;have HC0:=am hc0;clear hr0 hc0;have H:(spec_A2Has.l0 k l0 a1 0)=some r:=h;clear h;have H':=am H;clear H
 go_enter Tryz.func23,Tryz.ntmps23
 go_wp2
 go_loopg [5] k (fun kq v5 w'=>∃ (x5_1:Int),v5=.int .i64 x5_1∧Aside0 (spec_A2Has.l0 kq l0 a1 x5_1=some r)∧Aside0 (kq≤k)∧Drawn0 w w')
 case atStart=>exact ⟨(0),zq3,H',⟨Nat.le_refl _⟩,by repeat (first|exact Drawn0.refl _|apply Drawn0.step)⟩
 case round =>
  clear H';(try clear c2);(try clear p2);obtain ⟨x5_1,rfl,HA,HK1,⟨m1,rfl⟩⟩:=hrel
  cases gk with
  | zero=>exact absurd HA.out (by simp [spec_A2Has.l0])
  | succ k1 =>
   have H:=HA.out;clear HA;simp only [spec_A2Has.l0] at H
   by_cases c3:x5_1 < (l0.length:Int)
   ·rw [if_pos c3] at H;have c3b0:=decide_eq_true c3;clear c3
    by_cases c4:0≤x5_1
    ·rw [if_pos c4] at H;have c4b0:=decide_eq_true c4;clear c4
     by_cases c5:(rd l0 x5_1)=a1
     ·rw [if_pos c5] at H;have c5b0:=beq_iff_eq.mpr c5;have c5b1:=bne_eq_false_iff_eq.mpr c5;clear c5;obtain rfl:=Option.some.inj H;have p101:0≤(x5_1:Int):=of_decide_eq_true zq2;have q101:x5_1 < (l0.length:Int):=of_decide_eq_true zq2;obtain ⟨ad101,e101,hx101_0⟩:=Kd.at_int HR0.out x5_1 p101 q101;cases e101;replace p101:=eq_true p101;replace q101:=eq_true q101
      go_wp2
      go_ret
      exact ⟨by first|rfl|(simp only [IntKind.wrap_i64,wrap64];done)|(simp;done)|(simp [*];done),by repeat (first|exact Drawn0.refl _|apply Drawn0.step)⟩
     ·rw [if_neg c5] at H;have c5b0:=beq_eq_false_iff_ne.mpr c5;have c5b1:=bne_iff_ne.mpr c5;have H':=am H;clear H;have p101:0≤(x5_1:Int):=of_decide_eq_true zq2;have q101:x5_1 < (l0.length:Int):=of_decide_eq_true zq2;obtain ⟨ad101,e101,hx101_0⟩:=Kd.at_int HR0.out x5_1 p101 q101;cases e101;replace p101:=eq_true p101;replace q101:=eq_true q101
      go_wp2
      go_roundg k1
      case measure=>have:=HK1.out;omega
      case rel=>exact ⟨(wrap64 (x5_1 + 1)),zq3,H',⟨by have:=HK1.out;omega⟩,by repeat (first|exact Drawn0.refl _|apply Drawn0.step)⟩
    ·rw [if_neg c4] at H;exact absurd H (by simp)
   ·rw [if_neg c3] at H;have c3b0:=decide_eq_false c3;clear c3;obtain rfl:=Option.some.inj H
    go_wp2
    go_ret
    exact ⟨by first|rfl|(simp only [IntKind.wrap_i64,wrap64];done)|(simp;done)|(simp [*];done),by repeat (first|exact Drawn0.refl _|apply Drawn0.step)⟩
def IsS78 (w0 W:World) (g:Nat) (f0:List Int) (f1:Int) (f2:Int):Prop:=∃ A0 c0,W.heap[g]?=some (.cells #[.slice A0 f0.length c0,.int .i64 f1,.int .u64 f2] 78 (0,0))∧w0.heap.size≤g∧Kd.C (Kd.int .u8) w0 A0 f0.length f0
theorem IsS78.grown {w0 W:World} {g:Nat} {f0:List Int} {f1:Int} {f2:Int} {W1:World} {row:Option Nat} (h:IsS78 w0 W g f0 f1 f2) (hw:W.grownBy W1 row) (hne:some g≠row):IsS78 w0 W1 g f0 f1 f2:=by
 obtain ⟨A0,c0,hb,hg,hr0⟩:=h;exact ⟨A0,c0,blk_grown hb hw hne,hg,hr0⟩
theorem IsS78.below {w0 W:World} {g:Nat} {f0:List Int} {f1:Int} {f2:Int} {W1:World} (h:IsS78 w0 W g f0 f1 f2) (hw:Below W.heap.size W W1):IsS78 w0 W1 g f0 f1 f2:=h.grown (grown_of_below hw none) (by simp)
theorem IsS78.alloc {w0 W:World} {g:Nat} {f0:List Int} {f1:Int} {f2:Int} (h:IsS78 w0 W g f0 f1 f2) (o:Obj):IsS78 w0 (W.alloc o) g f0 f1 f2:=h.below (below_alloc (Below.refl _ _) o)
theorem IsS78.drewN {w0 W:World} {g:Nat} {f0:List Int} {f1:Int} {f2:Int} (h:IsS78 w0 W g f0 f1 f2) (m:Nat):IsS78 w0 (W.drewN m) g f0 f1 f2:=h
theorem IsS78.drew {w0 W:World} {g:Nat} {f0:List Int} {f1:Int} {f2:Int} (h:IsS78 w0 W g f0 f1 f2):IsS78 w0 W.drew g f0 f1 f2:=h
theorem IsS78.apart {w0 W:World} {g:Nat} {f0:List Int} {f1:Int} {f2:Int} {α:Type} {d:Kd α} {e:Nat} {base:Nat} {ok:Nat→Prop} {v:Value} {xs:List α} (h:IsS78 w0 W g f0 f1 f2) (ho:d.R e W base ok v xs) (ht:∀ q,q∈e :: d.E→q≠78):d.R e W base (fun k=>ok k∧k≠g) v xs:=by
 obtain ⟨A0,c0,hb,hg,hr0⟩:=h;exact Kd.R_types ho hb ht
theorem IsS78.own_ne {w0 W:World} {g:Nat} {f0:List Int} {f1:Int} {f2:Int} {α:Type} {d:Kd α} {e:Nat} {base:Nat} {ok:Nat→Prop} {v:Value} {xs:List α} (h:IsS78 w0 W g f0 f1 f2) (ho:d.R e W base ok v xs) (ht:e≠78):some g≠v.ownBlock:=by
 obtain ⟨A0,c0,hb,hg,hr0⟩:=h;exact Kd.R_ne ho hb ht
theorem IsS78.lt {w0 W:World} {g:Nat} {f0:List Int} {f1:Int} {f2:Int} (h:IsS78 w0 W g f0 f1 f2):g < W.heap.size:=by
 obtain ⟨A0,c0,hb,hg,hr0⟩:=h;exact blk_lt hb
theorem IsS78.ge {w0 W:World} {g:Nat} {f0:List Int} {f1:Int} {f2:Int} (h:IsS78 w0 W g f0 f1 f2):w0.heap.size≤g:=by
 obtain ⟨A0,c0,hb,hg,hr0⟩:=h;exact hg
theorem IsS78.far {w0 W:World} {g:Nat} {f0:List Int} {f1:Int} {f2:Int} {p:Addr} (h:IsS78 w0 W g f0 f1 f2) (hne:g≠p.block) (u:Value):IsS78 w0 (W.setCell p u) g f0 f1 f2:=by
 obtain ⟨A0,c0,hb,hg,hr0⟩:=h;exact ⟨A0,c0,blk_far hb hne u,hg,hr0⟩
theorem cellS78_0 {W:World} {g:Nat} {A0:Option Addr} {c0:Nat} {f0:List Int} {f1:Int} {f2:Int} (h:W.heap[g]?=some (.cells #[.slice A0 f0.length c0,.int .i64 f1,.int .u64 f2] 78 (0,0))):W.cell? ⟨g,0,none⟩=some (.slice A0 f0.length c0):=(blk_cell h 0).trans rfl
theorem cellS78_1 {W:World} {g:Nat} {A0:Option Addr} {c0:Nat} {f0:List Int} {f1:Int} {f2:Int} (h:W.heap[g]?=some (.cells #[.slice A0 f0.length c0,.int .i64 f1,.int .u64 f2] 78 (0,0))):W.cell? ⟨g,1,none⟩=some (.int .i64 f1):=(blk_cell h 1).trans rfl
theorem IsS78.set_1 {w0 W:World} {g:Nat} {f0:List Int} {f1:Int} {f2:Int} (h:IsS78 w0 W g f0 f1 f2) (x:Int):IsS78 w0 (W.setCell ⟨g,1,none⟩ (.int .i64 x)) g f0 x f2:=by
 obtain ⟨A0,c0,hb,hg,hr0⟩:=h;exact ⟨A0,c0,by simpa using blk_set hb 1 (.int .i64 x),hg,hr0⟩
theorem cellS78_2 {W:World} {g:Nat} {A0:Option Addr} {c0:Nat} {f0:List Int} {f1:Int} {f2:Int} (h:W.heap[g]?=some (.cells #[.slice A0 f0.length c0,.int .i64 f1,.int .u64 f2] 78 (0,0))):W.cell? ⟨g,2,none⟩=some (.int .u64 f2):=(blk_cell h 2).trans rfl
theorem IsS78.set_2 {w0 W:World} {g:Nat} {f0:List Int} {f1:Int} {f2:Int} (h:IsS78 w0 W g f0 f1 f2) (x:Int):IsS78 w0 (W.setCell ⟨g,2,none⟩ (.int .u64 x)) g f0 f1 x:=by
 obtain ⟨A0,c0,hb,hg,hr0⟩:=h;exact ⟨A0,c0,by simpa using blk_set hb 2 (.int .u64 x),hg,hr0⟩
def spec_l00Src_next.f (s0_0:List Int) (s0_1:Int) (s0_2:Int):Option (Int × Int × Int):=if s0_1 < (s0_0.length:Int) then (if 0≤s0_1 then (if (wrap64 (s0_1 + 1))≤(s0_0.length:Int) then (some (wrap64 (rd s0_0 s0_1),wrap64 (s0_1 + 1),IntKind.u64.wrap ((IntKind.u64.wrap ((IntKind.u64.wrap (s0_2 * 6364136223846793005)) + (IntKind.u64.wrap (wrap64 (rd s0_0 s0_1))))) + 1442695040888963407))) else (some (wrap64 (Go.bits .and .u64 ((IntKind.u64.wrap ((IntKind.u64.wrap ((IntKind.u64.wrap (s0_2 * 6364136223846793005)) + (IntKind.u64.wrap (wrap64 (rd s0_0 s0_1))))) + 1442695040888963407)) / 1099511627776) 255),wrap64 (s0_1 + 1),IntKind.u64.wrap ((IntKind.u64.wrap ((IntKind.u64.wrap (s0_2 * 6364136223846793005)) + (IntKind.u64.wrap (wrap64 (rd s0_0 s0_1))))) + 1442695040888963407)))) else (none)) else (if (wrap64 (s0_1 + 1))≤(s0_0.length:Int) then (some (0,wrap64 (s0_1 + 1),IntKind.u64.wrap ((IntKind.u64.wrap ((IntKind.u64.wrap (s0_2 * 6364136223846793005)))) + 1442695040888963407))) else (some (wrap64 (Go.bits .and .u64 ((IntKind.u64.wrap ((IntKind.u64.wrap ((IntKind.u64.wrap (s0_2 * 6364136223846793005)))) + 1442695040888963407)) / 1099511627776) 255),wrap64 (s0_1 + 1),IntKind.u64.wrap ((IntKind.u64.wrap ((IntKind.u64.wrap (s0_2 * 6364136223846793005)))) + 1442695040888963407))))
set_option maxHeartbeats 8000000 in
set_option maxRecDepth 100000 in
theorem spec_l00Src_next.calls (g:Nat) (s0_0:List Int) (s0_1:Int) (s0_2:Int) (r1:Int) (r2:Int) (r3:Int) (w0 w:World) (hI:IsS78 w0 w g s0_0 s0_1 s0_2) (hB:Below w0.heap.size w0 w) (h:spec_l00Src_next.f s0_0 s0_1 s0_2=some (r1,r2,r3)) :
  Calls Tryz.prog 59 #[.pointer (some ⟨g,0,none⟩)] w fun e w'=>e=.returned (.int .i64 r1)∧IsS78 w0 w' g s0_0 r2 r3∧Below w0.heap.size w0 w'∧KeepBut w w' g none:=by
 have HI0:=am hI;have HK:=am (KeepBut.refl w g none);have HL:=am hB.size;clear hI;have HW0:=am hB.size;have HB:=am hB;clear hB;have H:(if s0_1 < (s0_0.length:Int) then (if 0≤s0_1 then (if (wrap64 (s0_1 + 1))≤(s0_0.length:Int) then (some (wrap64 (rd s0_0 s0_1),wrap64 (s0_1 + 1),IntKind.u64.wrap ((IntKind.u64.wrap ((IntKind.u64.wrap (s0_2 * 6364136223846793005)) + (IntKind.u64.wrap (wrap64 (rd s0_0 s0_1))))) + 1442695040888963407))) else (some (wrap64 (Go.bits .and .u64 ((IntKind.u64.wrap ((IntKind.u64.wrap ((IntKind.u64.wrap (s0_2 * 6364136223846793005)) + (IntKind.u64.wrap (wrap64 (rd s0_0 s0_1))))) + 1442695040888963407)) / 1099511627776) 255),wrap64 (s0_1 + 1),IntKind.u64.wrap ((IntKind.u64.wrap ((IntKind.u64.wrap (s0_2 * 6364136223846793005)) + (IntKind.u64.wrap (wrap64 (rd s0_0 s0_1))))) + 1442695040888963407)))) else (none)) else (if (wrap64 (s0_1 + 1))≤(s0_0.length:Int) then (some (0,wrap64 (s0_1 + 1),IntKind.u64.wrap ((IntKind.u64.wrap ((IntKind.u64.wrap (s0_2 * 6364136223846793005)))) + 1442695040888963407))) else (some (wrap64 (Go.bits .and .u64 ((IntKind.u64.wrap ((IntKind.u64.wrap ((IntKind.u64.wrap (s0_2 * 6364136223846793005)))) + 1442695040888963407)) / 1099511627776) 255),wrap64 (s0_1 + 1),IntKind.u64.wrap ((IntKind.u64.wrap ((IntKind.u64.wrap (s0_2 * 6364136223846793005)))) + 1442695040888963407)))))=some (r1,r2,r3):=h;clear h
 by_cases c2:s0_1 < (s0_0.length:Int)
 ·rw [if_pos c2] at H;have c2b0:=decide_eq_true c2;clear c2
  by_cases c3:0≤s0_1
  ·rw [if_pos c3] at H;have c3b0:=decide_eq_true c3;clear c3
   by_cases c4:(wrap64 (s0_1 + 1))≤(s0_0.length:Int)
   ·rw [if_pos c4] at H;have c4b0:=decide_eq_true c4;clear c4;simp only [Option.some.injEq,Prod.mk.injEq] at H;obtain ⟨rfl,rfl,rfl⟩:=H;obtain ⟨ASz5_0,cSz5_0,HGz5,hgz5,HSz5_0⟩:=HI0.out;have hcz5_0:=cellS78_0 HGz5;have hcz5_1:=cellS78_1 HGz5;have hcz5_2:=cellS78_2 HGz5;have hfz5_1:=blk_frozen HGz5 1;have hfz5_2:=blk_frozen HGz5 2;clear HGz5 hgz5;have p101:0≤(s0_1:Int):=of_decide_eq_true zq2;have q101:s0_1 < (s0_0.length:Int):=of_decide_eq_true zq2;obtain ⟨ad101,e101,hx101_0⟩:=Kd.at_int HSz5_0 s0_1 p101 q101;cases e101;replace hx101_0:=pw_cell_below HB.out hx101_0;replace p101:=eq_true p101;replace q101:=eq_true q101
    go_enter Tryz.func59,Tryz.ntmps59
    go_wp2
    repeat (go_quiet (fail);try go_wp2)
    go_ret
    exact ⟨by first|rfl|(simp [errW_none,errW_some,IntKind.wrap_i64,wrap64];done)|(simp [errW_none,errW_some] <;> rfl)|(simp [*,errW_none,errW_some] <;> rfl),by repeat (first|(with_reducible first|exact HI0.out|apply IsS78.alloc|apply IsS78.drewN|apply IsS78.drew|apply IsS78.set_1|apply IsS78.set_2)|exact HI0.out),by repeat (first|(with_reducible first|exact HB.out|apply below_alloc|apply pw_below_drewN|apply below_drew1|refine below_set ?_ (IsS78.ge HI0.out))|exact HB.out),by repeat (first|(with_reducible first|exact HK.out|apply KeepBut.set_|apply keep_drewN|apply keep_drew|apply keep_alloc)|exact HK.out)⟩
   ·rw [if_neg c4] at H;have c4b0:=decide_eq_false c4;clear c4;simp only [Option.some.injEq,Prod.mk.injEq] at H;obtain ⟨rfl,rfl,rfl⟩:=H;obtain ⟨ASz6_0,cSz6_0,HGz6,hgz6,HSz6_0⟩:=HI0.out;have hcz6_0:=cellS78_0 HGz6;have hcz6_1:=cellS78_1 HGz6;have hcz6_2:=cellS78_2 HGz6;have hfz6_1:=blk_frozen HGz6 1;have hfz6_2:=blk_frozen HGz6 2;clear HGz6 hgz6;have p101:0≤(s0_1:Int):=of_decide_eq_true zq2;have q101:s0_1 < (s0_0.length:Int):=of_decide_eq_true zq2;obtain ⟨ad101,e101,hx101_0⟩:=Kd.at_int HSz6_0 s0_1 p101 q101;cases e101;replace hx101_0:=pw_cell_below HB.out hx101_0;replace p101:=eq_true p101;replace q101:=eq_true q101
    go_enter Tryz.func59,Tryz.ntmps59
    go_wp2
    repeat (go_quiet (fail);try go_wp2)
    go_ret
    exact ⟨by first|rfl|(simp [errW_none,errW_some,IntKind.wrap_i64,wrap64];done)|(simp [errW_none,errW_some] <;> rfl)|(simp [*,errW_none,errW_some] <;> rfl),by repeat (first|(with_reducible first|exact HI0.out|apply IsS78.alloc|apply IsS78.drewN|apply IsS78.drew|apply IsS78.set_1|apply IsS78.set_2)|exact HI0.out),by repeat (first|(with_reducible first|exact HB.out|apply below_alloc|apply pw_below_drewN|apply below_drew1|refine below_set ?_ (IsS78.ge HI0.out))|exact HB.out),by repeat (first|(with_reducible first|exact HK.out|apply KeepBut.set_|apply keep_drewN|apply keep_drew|apply keep_alloc)|exact HK.out)⟩
  ·rw [if_neg c3] at H;exact absurd H (by simp)
 ·rw [if_neg c2] at H;have c2b0:=decide_eq_false c2;clear c2
  by_cases c7:(wrap64 (s0_1 + 1))≤(s0_0.length:Int)
  ·rw [if_pos c7] at H;have c7b0:=decide_eq_true c7;clear c7;simp only [Option.some.injEq,Prod.mk.injEq] at H;obtain ⟨rfl,rfl,rfl⟩:=H;obtain ⟨ASz8_0,cSz8_0,HGz8,hgz8,HSz8_0⟩:=HI0.out;have hcz8_0:=cellS78_0 HGz8;have hcz8_1:=cellS78_1 HGz8;have hcz8_2:=cellS78_2 HGz8;have hfz8_1:=blk_frozen HGz8 1;have hfz8_2:=blk_frozen HGz8 2;clear HGz8 hgz8
   go_enter Tryz.func59,Tryz.ntmps59
   go_wp2
   repeat (go_quiet (fail);try go_wp2)
   go_ret
   exact ⟨by first|rfl|(simp [errW_none,errW_some,IntKind.wrap_i64,wrap64];done)|(simp [errW_none,errW_some] <;> rfl)|(simp [*,errW_none,errW_some] <;> rfl),by repeat (first|(with_reducible first|exact HI0.out|apply IsS78.alloc|apply IsS78.drewN|apply IsS78.drew|apply IsS78.set_1|apply IsS78.set_2)|exact HI0.out),by repeat (first|(with_reducible first|exact HB.out|apply below_alloc|apply pw_below_drewN|apply below_drew1|refine below_set ?_ (IsS78.ge HI0.out))|exact HB.out),by repeat (first|(with_reducible first|exact HK.out|apply KeepBut.set_|apply keep_drewN|apply keep_drew|apply keep_alloc)|exact HK.out)⟩
  ·rw [if_neg c7] at H;have c7b0:=decide_eq_false c7;clear c7;simp only [Option.some.injEq,Prod.mk.injEq] at H;obtain ⟨rfl,rfl,rfl⟩:=H;obtain ⟨ASz9_0,cSz9_0,HGz9,hgz9,HSz9_0⟩:=HI0.out;have hcz9_0:=cellS78_0 HGz9;have hcz9_1:=cellS78_1 HGz9;have hcz9_2:=cellS78_2 HGz9;have hfz9_1:=blk_frozen HGz9 1;have hfz9_2:=blk_frozen HGz9 2;clear HGz9 hgz9
   go_enter Tryz.func59,Tryz.ntmps59
   go_wp2
   repeat (go_quiet (fail);try go_wp2)
   go_ret
   exact ⟨by first|rfl|(simp [errW_none,errW_some,IntKind.wrap_i64,wrap64];done)|(simp [errW_none,errW_some] <;> rfl)|(simp [*,errW_none,errW_some] <;> rfl),by repeat (first|(with_reducible first|exact HI0.out|apply IsS78.alloc|apply IsS78.drewN|apply IsS78.drew|apply IsS78.set_1|apply IsS78.set_2)|exact HI0.out),by repeat (first|(with_reducible first|exact HB.out|apply below_alloc|apply pw_below_drewN|apply below_drew1|refine below_set ?_ (IsS78.ge HI0.out))|exact HB.out),by repeat (first|(with_reducible first|exact HK.out|apply KeepBut.set_|apply keep_drewN|apply keep_drew|apply keep_alloc)|exact HK.out)⟩
def spec_l00From.f (l0:List Int):Option (List Int × Int × Int):=some (l0,0,0)
set_option maxHeartbeats 8000000 in
set_option maxRecDepth 100000 in
theorem spec_l00From.calls (A0:Option Addr) (c0:Nat) (l0:List Int) (r1:List Int) (r2:Int) (r3:Int) (w0 w:World) (hB:Below w0.heap.size w0 w) (hr0:Kd.C (Kd.int .u8) w0 A0 l0.length l0) (hc0:l0.length≤c0) (h:spec_l00From.f l0=some (r1,r2,r3)) :
  Calls Tryz.prog 26 #[.slice A0 l0.length c0] w fun e w'=>∃ g_:Nat,e=.returned (.pointer (some ⟨g_,0,none⟩))∧IsS78 w0 w' g_ r1 r2 r3∧Below w0.heap.size w0 w'∧Below w.heap.size w w':=by
 have hu78:=Tryz.underlying78;have HR0:=am hr0;have HC0:=am hc0;clear hr0 hc0;have HBW:=am (Below.refl w.heap.size w);have HW0:=am hB.size;have HB:=am hB;clear hB;have H:(some (l0,0,0))=some (r1,r2,r3):=h;clear h;simp only [Option.some.injEq,Prod.mk.injEq] at H;obtain ⟨rfl,rfl,rfl⟩:=H
 go_enter Tryz.func26,Tryz.ntmps26
 go_wp2_with (first|((with_reducible refine gate_dst (N:=5) rfl ?_);refine box_event ?hg (N:=5) ?hd (cs:=#[.slice A0 l0.length c0,.int .i64 0,.int .u64 0]) (t:=78) ?hr ?_;(case hd=>rfl);(case hg=>rfl);(case hr=>exact zq12);intro gb101 hg w2 hbox hb;have n0_:=am (below_step HBW.out hb);have n1_:=am (below_step zq0 hb);have n2_:=am (hbox);have n3_:=am ((by rw [hg];exact (below_size zq80):w.heap.size≤gb101));have n4_:=am ((Nat.le_trans HW0.out (by rw [hg];exact (below_size zq80):w.heap.size≤gb101):w0.heap.size≤gb101));clear HBW;clear HB;have HBW:=n0_;have HB:=n1_;have BK101:=n2_;have GW101:=n3_;have GE101:=n4_;clear n0_ n1_ n2_ n3_ n4_;clear hb hbox hg))
 go_ret
 exact ⟨_,rfl,(show IsS78 w0 _ gb101 l0 0 0 from ⟨_,_,by (with_reducible repeat (first|refine blk_drewN ?_ _|refine blk_drew ?_|refine blk_alloc ?_ _));exact BK101.out,GE101.out,HR0.out⟩),by repeat (first|(with_reducible first|exact HB.out|apply below_alloc|apply pw_below_drewN|apply below_drew1|refine below_set ?_ GE101.out)|exact HB.out),by repeat (first|(with_reducible first|exact HBW.out|apply below_alloc|apply pw_below_drewN|apply below_drew1|refine below_set ?_ GW101.out)|exact HBW.out)⟩
def spec_l00Src_pick.f (s0_0:List Int) (s0_1:Int) (s0_2:Int) (a1:Int):Option (Int × Int × Int):=if a1≤1 then (some (0,s0_1,s0_2)) else ((spec_l00Src_next.f s0_0 s0_1 s0_2).bind fun bt101=>(if a1 > 200 then ((spec_l00Src_next.f s0_0 bt101.2.1 bt101.2.2).bind fun bt104=>(if a1=0 then (none) else (some (Int.tmod (wrap64 ((wrap64 (bt101.1 * 256)) + bt104.1)) a1,bt104.2.1,bt104.2.2)))) else (if a1=0 then (none) else (some (Int.tmod bt101.1 a1,bt101.2.1,bt101.2.2)))))
set_option maxHeartbeats 8000000 in
set_option maxRecDepth 100000 in
theorem spec_l00Src_pick.calls (g:Nat) (s0_0:List Int) (s0_1:Int) (s0_2:Int) (a1:Int) (r1:Int) (r2:Int) (r3:Int) (w0 w:World) (hI:IsS78 w0 w g s0_0 s0_1 s0_2) (hB:Below w0.heap.size w0 w) (h:spec_l00Src_pick.f s0_0 s0_1 s0_2 a1=some (r1,r2,r3)) :
  Calls Tryz.prog 46 #[.pointer (some ⟨g,0,none⟩),.int .i64 a1] w fun e w'=>e=.returned (.int .i64 r1)∧IsS78 w0 w' g s0_0 r2 r3∧Below w0.heap.size w0 w'∧KeepBut w w' g none:=by
 have HI0:=am hI;have HK:=am (KeepBut.refl w g none);have HL:=am hB.size;clear hI;have HW0:=am hB.size;have HB:=am hB;clear hB;have H:(if a1≤1 then (some (0,s0_1,s0_2)) else ((spec_l00Src_next.f s0_0 s0_1 s0_2).bind fun bt101=>(if a1 > 200 then ((spec_l00Src_next.f s0_0 bt101.2.1 bt101.2.2).bind fun bt104=>(if a1=0 then (none) else (some (Int.tmod (wrap64 ((wrap64 (bt101.1 * 256)) + bt104.1)) a1,bt104.2.1,bt104.2.2)))) else (if a1=0 then (none) else (some (Int.tmod bt101.1 a1,bt101.2.1,bt101.2.2))))))=some (r1,r2,r3):=h;clear h
 by_cases c3:a1≤1
 ·rw [if_pos c3] at H;have c3b0:=decide_eq_true c3;clear c3;simp only [Option.some.injEq,Prod.mk.injEq] at H;obtain ⟨rfl,rfl,rfl⟩:=H
  go_enter Tryz.func46,Tryz.ntmps46
  go_wp2
  go_ret
  exact ⟨by first|rfl|(simp [errW_none,errW_some,IntKind.wrap_i64,wrap64];done)|(simp [errW_none,errW_some] <;> rfl)|(simp [*,errW_none,errW_some] <;> rfl),by repeat (first|(with_reducible first|exact HI0.out|apply IsS78.alloc|apply IsS78.drewN|apply IsS78.drew|apply IsS78.set_1|apply IsS78.set_2)|exact HI0.out),by repeat (first|(with_reducible first|exact HB.out|apply below_alloc|apply pw_below_drewN|apply below_drew1|refine below_set ?_ (IsS78.ge HI0.out))|exact HB.out),by repeat (first|(with_reducible first|exact HK.out|apply KeepBut.set_|apply keep_drewN|apply keep_drew|apply keep_alloc)|exact HK.out)⟩
 ·rw [if_neg c3] at H;have c3b0:=decide_eq_false c3;clear c3;replace H:=Option.bind_eq_some_iff.mp H;obtain ⟨⟨t101,t102,t103⟩,A40,H⟩:=H;replace H:(if a1 > 200 then ((spec_l00Src_next.f s0_0 t102 t103).bind fun bt104=>(if a1=0 then (none) else (some (Int.tmod (wrap64 ((wrap64 (t101 * 256)) + bt104.1)) a1,bt104.2.1,bt104.2.2)))) else (if a1=0 then (none) else (some (Int.tmod t101 a1,t102,t103))))=some (r1,r2,r3):=H;have A4:=am A40;clear A40
  by_cases c5:a1 > 200
  ·rw [if_pos c5] at H;have c5b0:decide (200 < a1)=true:=decide_eq_true c5;clear c5;replace H:=Option.bind_eq_some_iff.mp H;obtain ⟨⟨t104,t105,t106⟩,A60,H⟩:=H;replace H:(if a1=0 then (none) else (some (Int.tmod (wrap64 ((wrap64 (t101 * 256)) + t104)) a1,t105,t106)))=some (r1,r2,r3):=H;have A6:=am A60;clear A60
   by_cases c7:a1=0
   ·rw [if_pos c7] at H;exact absurd H (by simp)
   ·rw [if_neg c7] at H;have c7b0:=beq_eq_false_iff_ne.mpr c7;have c7b1:=bne_iff_ne.mpr c7;simp only [Option.some.injEq,Prod.mk.injEq] at H;obtain ⟨rfl,rfl,rfl⟩:=H
    go_enter Tryz.func46,Tryz.ntmps46
    go_wp2_with (first|((with_reducible refine gate_callee (f:=59) rfl ?_);refine goesL_ (some 9) rfl rfl Tryz.func59 zq19 rfl #[.pointer (some ⟨g,0,none⟩)] rfl zq1 ?_;(with_reducible refine (spec_l00Src_next.calls g s0_0 s0_1 s0_2 t101 t102 t103 w0 _ ?side1 ?side2 A4.out).mono ?_);(case side1=>exact zq10);(case side2=>exact zq9);rintro e w8 ⟨rfl,hi,hb,hk⟩;refine ⟨_,rfl,?_⟩;have n0_:=am (KeepBut.trans zq5 hk (.inl rfl));have n1_:=am (hb);have n2_:=am (hi);clear HK;clear HB;clear HI0;have HK:=n0_;have HB:=n1_;have HI0:=n2_;clear n0_ n1_ n2_;(try clear hb);(try clear hb2);(try clear hk);(try clear hi))|((with_reducible refine gate_callee (f:=59) rfl ?_);refine goesL_ (some 15) rfl rfl Tryz.func59 zq19 rfl #[.pointer (some ⟨g,0,none⟩)] rfl zq1 ?_;(with_reducible refine (spec_l00Src_next.calls g s0_0 t102 t103 t104 t105 t106 w0 _ ?side1 ?side2 A6.out).mono ?_);(case side1=>exact zq10);(case side2=>exact zq9);rintro e w9 ⟨rfl,hi,hb,hk⟩;refine ⟨_,rfl,?_⟩;have n0_:=am (KeepBut.trans zq5 hk (.inl rfl));have n1_:=am (hb);have n2_:=am (hi);clear HK;clear HB;clear HI0;have HK:=n0_;have HB:=n1_;have HI0:=n2_;clear n0_ n1_ n2_;(try clear hb);(try clear hb2);(try clear hk);(try clear hi)))
    go_ret
    exact ⟨by first|rfl|(simp [errW_none,errW_some,IntKind.wrap_i64,wrap64];done)|(simp [errW_none,errW_some] <;> rfl)|(simp [*,errW_none,errW_some] <;> rfl),by repeat (first|(with_reducible first|exact HI0.out|apply IsS78.alloc|apply IsS78.drewN|apply IsS78.drew|apply IsS78.set_1|apply IsS78.set_2)|exact HI0.out),by repeat (first|(with_reducible first|exact HB.out|apply below_alloc|apply pw_below_drewN|apply below_drew1|refine below_set ?_ (IsS78.ge HI0.out))|exact HB.out),by repeat (first|(with_reducible first|exact HK.out|apply KeepBut.set_|apply keep_drewN|apply keep_drew|apply keep_alloc)|exact HK.out)⟩
  ·rw [if_neg c5] at H;have c5b0:decide (200 < a1)=false:=decide_eq_false c5;clear c5
   by_cases c10:a1=0
   ·rw [if_pos c10] at H;exact absurd H (by simp)
   ·rw [if_neg c10] at H;have c10b0:=beq_eq_false_iff_ne.mpr c10;have c10b1:=bne_iff_ne.mpr c10;simp only [Option.some.injEq,Prod.mk.injEq] at H;obtain ⟨rfl,rfl,rfl⟩:=H
    go_enter Tryz.func46,Tryz.ntmps46
    go_wp2_with (first|((with_reducible refine gate_callee (f:=59) rfl ?_);refine goesL_ (some 9) rfl rfl Tryz.func59 zq19 rfl #[.pointer (some ⟨g,0,none⟩)] rfl zq1 ?_;(with_reducible refine (spec_l00Src_next.calls g s0_0 s0_1 s0_2 t101 t102 t103 w0 _ ?side1 ?side2 A4.out).mono ?_);(case side1=>exact zq10);(case side2=>exact zq9);rintro e w11 ⟨rfl,hi,hb,hk⟩;refine ⟨_,rfl,?_⟩;have n0_:=am (KeepBut.trans zq5 hk (.inl rfl));have n1_:=am (hb);have n2_:=am (hi);clear HK;clear HB;clear HI0;have HK:=n0_;have HB:=n1_;have HI0:=n2_;clear n0_ n1_ n2_;(try clear hb);(try clear hb2);(try clear hk);(try clear hi)))
    go_ret
    exact ⟨by first|rfl|(simp [errW_none,errW_some,IntKind.wrap_i64,wrap64];done)|(simp [errW_none,errW_some] <;> rfl)|(simp [*,errW_none,errW_some] <;> rfl),by repeat (first|(with_reducible first|exact HI0.out|apply IsS78.alloc|apply IsS78.drewN|apply IsS78.drew|apply IsS78.set_1|apply IsS78.set_2)|exact HI0.out),by repeat (first|(with_reducible first|exact HB.out|apply below_alloc|apply pw_below_drewN|apply below_drew1|refine below_set ?_ (IsS78.ge HI0.out))|exact HB.out),by repeat (first|(with_reducible first|exact HK.out|apply KeepBut.set_|apply keep_drewN|apply keep_drew|apply keep_alloc)|exact HK.out)⟩
def spec_l00Src_one.f (s0_0:List Int) (s0_1:Int) (s0_2:Int) (a1:Int):Option (Bool × Int × Int):=(spec_l00Src_pick.f s0_0 s0_1 s0_2 a1).bind fun bt101=>(some ((bt101.1 == 0),bt101.2.1,bt101.2.2))
set_option maxHeartbeats 8000000 in
set_option maxRecDepth 100000 in
theorem spec_l00Src_one.calls (g:Nat) (s0_0:List Int) (s0_1:Int) (s0_2:Int) (a1:Int) (r1:Bool) (r2:Int) (r3:Int) (w0 w:World) (hI:IsS78 w0 w g s0_0 s0_1 s0_2) (hB:Below w0.heap.size w0 w) (h:spec_l00Src_one.f s0_0 s0_1 s0_2 a1=some (r1,r2,r3)) :
  Calls Tryz.prog 47 #[.pointer (some ⟨g,0,none⟩),.int .i64 a1] w fun e w'=>e=.returned (.bool r1)∧IsS78 w0 w' g s0_0 r2 r3∧Below w0.heap.size w0 w'∧KeepBut w w' g none:=by
 have HI0:=am hI;have HK:=am (KeepBut.refl w g none);have HL:=am hB.size;clear hI;have HW0:=am hB.size;have HB:=am hB;clear hB;have H:((spec_l00Src_pick.f s0_0 s0_1 s0_2 a1).bind fun bt101=>(some ((bt101.1 == 0),bt101.2.1,bt101.2.2)))=some (r1,r2,r3):=h;clear h;replace H:=Option.bind_eq_some_iff.mp H;obtain ⟨⟨t101,t102,t103⟩,A30,H⟩:=H;replace H:(some ((t101 == 0),t102,t103))=some (r1,r2,r3):=H;have A3:=am A30;clear A30;simp only [Option.some.injEq,Prod.mk.injEq] at H;obtain ⟨rfl,rfl,rfl⟩:=H
 go_enter Tryz.func47,Tryz.ntmps47
 go_wp2_with (first|((with_reducible refine gate_callee (f:=46) rfl ?_);refine goesL_ (some 7) rfl rfl Tryz.func46 zq19 rfl #[.pointer (some ⟨g,0,none⟩),.int .i64 a1] rfl zq1 ?_;(with_reducible refine (spec_l00Src_pick.calls g s0_0 s0_1 s0_2 a1 t101 t102 t103 w0 _ ?side1 ?side2 A3.out).mono ?_);(case side1=>exact zq10);(case side2=>exact zq9);rintro e w4 ⟨rfl,hi,hb,hk⟩;refine ⟨_,rfl,?_⟩;have n0_:=am (KeepBut.trans zq5 hk (.inl rfl));have n1_:=am (hb);have n2_:=am (hi);clear HK;clear HB;clear HI0;have HK:=n0_;have HB:=n1_;have HI0:=n2_;clear n0_ n1_ n2_;(try clear hb);(try clear hb2);(try clear hk);(try clear hi)))
 go_ret
 exact ⟨by first|rfl|(simp [errW_none,errW_some,IntKind.wrap_i64,wrap64];done)|(simp [errW_none,errW_some] <;> rfl)|(simp [*,errW_none,errW_some] <;> rfl),by repeat (first|(with_reducible first|exact HI0.out|apply IsS78.alloc|apply IsS78.drewN|apply IsS78.drew|apply IsS78.set_1|apply IsS78.set_2)|exact HI0.out),by repeat (first|(with_reducible first|exact HB.out|apply below_alloc|apply pw_below_drewN|apply below_drew1|refine below_set ?_ (IsS78.ge HI0.out))|exact HB.out),by repeat (first|(with_reducible first|exact HK.out|apply KeepBut.set_|apply keep_drewN|apply keep_drew|apply keep_alloc)|exact HK.out)⟩
def spec_l06Drawn.l0:Nat→List (S52)→Int→List Int→Int→Int→Option ((List (S52)) × Int × Int)
 | 0,_,_,_,_,_=>none
 | k + 1,x3,x4,x1000,x1001,x1002=>if x4 > 0 then ((spec_l00Src_pick.f x1000 x1001 x1002 3).bind fun bt107=>((spec_l00Src_pick.f x1000 bt107.2.1 bt107.2.2 8).bind fun bt110=>((spec_l00Src_pick.f x1000 bt110.2.1 bt110.2.2 5).bind fun bt114=>((spec_l00Src_one.f x1000 bt114.2.1 bt114.2.2 16).bind fun bt117=>(if bt117.1=true then (if x3.length < 46912496118442 then (spec_l06Drawn.l0 k (x3 ++ [(⟨0,IntKind.i8.wrap (bt110.1),IntKind.i8.wrap (bt114.1)⟩:S52)]) (wrap64 (x4 - 1)) x1000 bt117.2.1 bt117.2.2) else (none)) else (if x3.length < 46912496118442 then (spec_l06Drawn.l0 k (x3 ++ [(⟨IntKind.i8.wrap (wrap64 (1 + bt107.1)),IntKind.i8.wrap (bt110.1),IntKind.i8.wrap (bt114.1)⟩:S52)]) (wrap64 (x4 - 1)) x1000 bt117.2.1 bt117.2.2) else (none))))))) else (some (x3,x1001,x1002))
def spec_l06Drawn.f (k:Nat) (s0_0:List Int) (s0_1:Int) (s0_2:Int):Option ((List (S52)) × Int × Int):=(spec_l00Src_pick.f s0_0 s0_1 s0_2 8).bind fun bt104=>(spec_l06Drawn.l0 k (([]:List (S52))) (wrap64 (1 + bt104.1)) s0_0 bt104.2.1 bt104.2.2)
set_option maxHeartbeats 8000000 in
set_option maxRecDepth 100000 in
theorem spec_l06Drawn.calls (k:Nat) (g:Nat) (s0_0:List Int) (s0_1:Int) (s0_2:Int) (r1:List (S52)) (r2:Int) (r3:Int) (w0 w:World) (hI:IsS78 w0 w g s0_0 s0_1 s0_2) (hB:Below w0.heap.size w0 w) (h:spec_l06Drawn.f k s0_0 s0_1 s0_2=some (r1,r2,r3)) :
  Calls Tryz.prog 25 #[.pointer (some ⟨g,0,none⟩)] w fun e w'=>∃ v0_:Value,e=.returned (v0_)∧Kd.R k52 52 w' w.heap.size (fun _=>True) v0_ r1∧IsS78 w0 w' g s0_0 r2 r3∧Below w0.heap.size w0 w'∧KeepBut w w' g none:=by
 have hu52:=Tryz.underlying52;have HI0:=am hI;have HK:=am (KeepBut.refl w g none);have HL:=am hB.size;clear hI;have HW0:=am hB.size;have HB:=am hB;clear hB;have H:((spec_l00Src_pick.f s0_0 s0_1 s0_2 8).bind fun bt104=>(spec_l06Drawn.l0 k (([]:List (S52))) (wrap64 (1 + bt104.1)) s0_0 bt104.2.1 bt104.2.2))=some (r1,r2,r3):=h;clear h;obtain ⟨y101,hy101⟩:∃ y_:List (S52),y_=(([]:List (S52))):=⟨_,rfl⟩
 replace H:((spec_l00Src_pick.f s0_0 s0_1 s0_2 8).bind fun bt104=>(spec_l06Drawn.l0 k y101 (wrap64 (1 + bt104.1)) s0_0 bt104.2.1 bt104.2.2))=some (r1,r2,r3):=by first|(rw [hy101];with_reducible exact H)|(have H2_:=(Option.bind_some _ _).symm.trans H;rw [hy101];with_reducible exact H2_)|(have H2_:=(Option.bind_some _ _).symm.trans H;with_reducible exact H2_)|with_reducible exact H|(rw [hy101];exact H)|exact H
 have Ny101:=am hy101;clear hy101;replace H:=Option.bind_eq_some_iff.mp H;obtain ⟨⟨t104,t105,t106⟩,A20,H⟩:=H;replace H:(spec_l06Drawn.l0 k y101 (wrap64 (1 + t104)) s0_0 t105 t106)=some (r1,r2,r3):=H;have A2:=am A20;clear A20;have H':=am H;clear H
 go_enter Tryz.func25,Tryz.ntmps25
 go_wp2_with (first|((with_reducible refine gate_dst (N:=6) rfl ?_);refine Kd.R_lit k52 _ 52 ?hg (N:=6) ?hd (xs:=([]:List (S52))) (inner:=[]) (ok:=fun _=>True) (okp:=fun _=>True) ?hr ?hp (fun _ hk=>hk) trivial (Below.refl _ _) (Nat.le_refl _) (by simp) ?_;(case hd=>rfl);(case hg=>rfl);(case hr=>exact zq12);(case hp=>exact (Reps.none _ _));intro v102 w3 ho4 hb hg_ hnew_;clear hg_ hnew_;(first|rw [← Ny101.out] at ho4|(simp only [Int.reduceToNat] at ho4;rw [← Ny101.out] at ho4));have n0_:=am (Kd.R_lower ho4 (keep_size (w:=w) (g:=g) (row:=none) zq5));have n1_:=am (IsS78.below zq10 hb);have n2_:=am (KeepBut.trans zq5 (KeepBut.of_below hb g none) (.inl rfl));have n3_:=am (below_step zq9 hb);clear HI0;clear HK;clear HB;have HO103:=n0_;have HI0:=n1_;have HK:=n2_;have HB:=n3_;clear n0_ n1_ n2_ n3_;clear hb ho4)|((with_reducible refine gate_callee (f:=46) rfl ?_);refine goesL_ (some 8) rfl rfl Tryz.func46 zq19 rfl #[.pointer (some ⟨g,0,none⟩),.int .i64 8] rfl zq1 ?_;(with_reducible refine (spec_l00Src_pick.calls g s0_0 s0_1 s0_2 8 t104 t105 t106 w0 _ ?side1 ?side2 A2.out).mono ?_);(case side1=>exact zq10);(case side2=>exact zq9);rintro e w5 ⟨rfl,hi,hb,hk⟩;refine ⟨_,rfl,?_⟩;have n0_:=am (Kd.R_mono (Kd.R_keep (IsS78.apart (show IsS78 w0 _ g s0_0 s0_1 s0_2 from by repeat (first|(with_reducible first|exact HI0.out|apply IsS78.alloc|apply IsS78.drewN|apply IsS78.drew|apply IsS78.set_1|apply IsS78.set_2)|exact HI0.out)) zq62 (by decide)) hk (fun _ h=>h.2)) (fun _ h=>h.1));have n1_:=am (KeepBut.trans zq5 hk (.inl rfl));have n2_:=am (hb);have n3_:=am (hi);clear HO103;clear HK;clear HB;clear HI0;have HO103:=n0_;have HK:=n1_;have HB:=n2_;have HI0:=n3_;clear n0_ n1_ n2_ n3_;(try clear hb);(try clear hb2);(try clear hk);(try clear hi)))
 go_loopg [3,4] k (fun kq v3 v4 w'=>∃ (x3_1:List (S52)) (x4_1:Int) (x1001_1:Int) (x1002_1:Int),v4=.int .i64 x4_1∧Aside0 (spec_l06Drawn.l0 kq x3_1 x4_1 s0_0 x1001_1 x1002_1=some (r1,r2,r3))∧Aside0 (kq≤k)∧Aside0 (Kd.R k52 52 w' w.heap.size (fun _=>True) v3 x3_1)∧Aside0 (IsS78 w0 w' g s0_0 x1001_1 x1002_1)∧Aside0 (KeepBut w w' g none)∧Aside0 (Below w0.heap.size w0 w'))
 case atStart=>exact ⟨(y101),(wrap64 (1 + t104)),(t105),(t106),zq3,H',⟨Nat.le_refl _⟩,⟨by (with_reducible repeat (first|apply Kd.R_alloc|apply Kd.R_drewN|apply Kd.R_drew));exact HO103.out⟩,⟨by repeat (first|(with_reducible first|exact HI0.out|apply IsS78.alloc|apply IsS78.drewN|apply IsS78.drew|apply IsS78.set_1|apply IsS78.set_2)|exact HI0.out)⟩,⟨by repeat (first|(with_reducible first|exact HK.out|apply KeepBut.set_|apply keep_drewN|apply keep_drew|apply keep_alloc)|exact HK.out)⟩,⟨by repeat (first|(with_reducible first|exact HB.out|apply below_alloc|apply pw_below_drewN|apply below_drew1|refine below_set ?_ (IsS78.ge HI0.out))|exact HB.out)⟩⟩
 case round =>
  clear H';(try clear c2);(try clear p2);(try clear c4);obtain ⟨x3_1,x4_1,x1001_1,x1002_1,rfl,HA,HK1,HO_3,HI0,HK,HB⟩:=hrel
  cases gk with
  | zero=>exact absurd HA.out (by simp [spec_l06Drawn.l0])
  | succ k1 =>
   have H:=HA.out;clear HA;simp only [spec_l06Drawn.l0] at H
   by_cases c6:x4_1 > 0
   ·rw [if_pos c6] at H;have c6b0:decide (0 < x4_1)=true:=decide_eq_true c6;clear c6;replace H:=Option.bind_eq_some_iff.mp H;obtain ⟨⟨t107,t108,t109⟩,A70,H⟩:=H;replace H:((spec_l00Src_pick.f s0_0 t108 t109 8).bind fun bt110=>((spec_l00Src_pick.f s0_0 bt110.2.1 bt110.2.2 5).bind fun bt114=>((spec_l00Src_one.f s0_0 bt114.2.1 bt114.2.2 16).bind fun bt117=>(if bt117.1=true then (if x3_1.length < 46912496118442 then (spec_l06Drawn.l0 k1 (x3_1 ++ [(⟨0,IntKind.i8.wrap (bt110.1),IntKind.i8.wrap (bt114.1)⟩:S52)]) (wrap64 (x4_1 - 1)) s0_0 bt117.2.1 bt117.2.2) else (none)) else (if x3_1.length < 46912496118442 then (spec_l06Drawn.l0 k1 (x3_1 ++ [(⟨IntKind.i8.wrap (wrap64 (1 + t107)),IntKind.i8.wrap (bt110.1),IntKind.i8.wrap (bt114.1)⟩:S52)]) (wrap64 (x4_1 - 1)) s0_0 bt117.2.1 bt117.2.2) else (none))))))=some (r1,r2,r3):=H;have A7:=am A70;clear A70;replace H:=Option.bind_eq_some_iff.mp H;obtain ⟨⟨t110,t111,t112⟩,A80,H⟩:=H;replace H:((spec_l00Src_pick.f s0_0 t111 t112 5).bind fun bt114=>((spec_l00Src_one.f s0_0 bt114.2.1 bt114.2.2 16).bind fun bt117=>(if bt117.1=true then (if x3_1.length < 46912496118442 then (spec_l06Drawn.l0 k1 (x3_1 ++ [(⟨0,IntKind.i8.wrap (t110),IntKind.i8.wrap (bt114.1)⟩:S52)]) (wrap64 (x4_1 - 1)) s0_0 bt117.2.1 bt117.2.2) else (none)) else (if x3_1.length < 46912496118442 then (spec_l06Drawn.l0 k1 (x3_1 ++ [(⟨IntKind.i8.wrap (wrap64 (1 + t107)),IntKind.i8.wrap (t110),IntKind.i8.wrap (bt114.1)⟩:S52)]) (wrap64 (x4_1 - 1)) s0_0 bt117.2.1 bt117.2.2) else (none)))))=some (r1,r2,r3):=H;have A8:=am A80;clear A80;replace H:=Option.bind_eq_some_iff.mp H;obtain ⟨⟨t114,t115,t116⟩,A90,H⟩:=H;replace H:((spec_l00Src_one.f s0_0 t115 t116 16).bind fun bt117=>(if bt117.1=true then (if x3_1.length < 46912496118442 then (spec_l06Drawn.l0 k1 (x3_1 ++ [(⟨0,IntKind.i8.wrap (t110),IntKind.i8.wrap (t114)⟩:S52)]) (wrap64 (x4_1 - 1)) s0_0 bt117.2.1 bt117.2.2) else (none)) else (if x3_1.length < 46912496118442 then (spec_l06Drawn.l0 k1 (x3_1 ++ [(⟨IntKind.i8.wrap (wrap64 (1 + t107)),IntKind.i8.wrap (t110),IntKind.i8.wrap (t114)⟩:S52)]) (wrap64 (x4_1 - 1)) s0_0 bt117.2.1 bt117.2.2) else (none))))=some (r1,r2,r3):=H;have A9:=am A90;clear A90;replace H:=Option.bind_eq_some_iff.mp H;obtain ⟨⟨t117,t118,t119⟩,A100,H⟩:=H;replace H:(if t117=true then (if x3_1.length < 46912496118442 then (spec_l06Drawn.l0 k1 (x3_1 ++ [(⟨0,IntKind.i8.wrap (t110),IntKind.i8.wrap (t114)⟩:S52)]) (wrap64 (x4_1 - 1)) s0_0 t118 t119) else (none)) else (if x3_1.length < 46912496118442 then (spec_l06Drawn.l0 k1 (x3_1 ++ [(⟨IntKind.i8.wrap (wrap64 (1 + t107)),IntKind.i8.wrap (t110),IntKind.i8.wrap (t114)⟩:S52)]) (wrap64 (x4_1 - 1)) s0_0 t118 t119) else (none)))=some (r1,r2,r3):=H;have A10:=am A100;clear A100
    by_cases c11:t117=true
    ·subst c11
     have H1:(if x3_1.length < 46912496118442 then (spec_l06Drawn.l0 k1 (x3_1 ++ [(⟨0,IntKind.i8.wrap (t110),IntKind.i8.wrap (t114)⟩:S52)]) (wrap64 (x4_1 - 1)) s0_0 t118 t119) else (none))=some (r1,r2,r3):=by rw [if_pos rfl] at H;exact H
     clear H;have H:=H1;clear H1
     by_cases c12:x3_1.length < 46912496118442
     ·rw [if_pos c12] at H;have LMc12:=am c12;clear c12;obtain ⟨y120,hy120⟩:∃ y_:List (S52),y_=(x3_1 ++ [(⟨0,IntKind.i8.wrap (t110),IntKind.i8.wrap (t114)⟩:S52)]):=⟨_,rfl⟩
      replace H:(spec_l06Drawn.l0 k1 y120 (wrap64 (x4_1 - 1)) s0_0 t118 t119)=some (r1,r2,r3):=by first|(rw [hy120];with_reducible exact H)|(have H2_:=(Option.bind_some _ _).symm.trans H;rw [hy120];with_reducible exact H2_)|(have H2_:=(Option.bind_some _ _).symm.trans H;with_reducible exact H2_)|with_reducible exact H|(rw [hy120];exact H)|exact H
      have Ny120:=am hy120;clear hy120;have H':=am H;clear H
      go_wp2_with (first|((with_reducible refine gate_callee (f:=46) rfl ?_);refine goesL_ (some 15) rfl rfl Tryz.func46 zq19 rfl #[.pointer (some ⟨g,0,none⟩),.int .i64 3] rfl zq1 ?_;(with_reducible refine (spec_l00Src_pick.calls g s0_0 x1001_1 x1002_1 3 t107 t108 t109 w0 _ ?side1 ?side2 A7.out).mono ?_);(case side1=>exact zq10);(case side2=>exact zq9);rintro e w13 ⟨rfl,hi,hb,hk⟩;refine ⟨_,rfl,?_⟩;have n0_:=am (Kd.R_mono (Kd.R_keep (IsS78.apart (show IsS78 w0 _ g s0_0 x1001_1 x1002_1 from by repeat (first|(with_reducible first|exact HI0.out|apply IsS78.alloc|apply IsS78.drewN|apply IsS78.drew|apply IsS78.set_1|apply IsS78.set_2)|exact HI0.out)) zq8 (by decide)) hk (fun _ h=>h.2)) (fun _ h=>h.1));have n1_:=am (KeepBut.trans zq5 hk (.inl rfl));have n2_:=am (hb);have n3_:=am (hi);clear HO_3;clear HK;clear HB;clear HI0;have HO_3:=n0_;have HK:=n1_;have HB:=n2_;have HI0:=n3_;clear n0_ n1_ n2_ n3_;(try clear hb);(try clear hb2);(try clear hk);(try clear hi))|((with_reducible refine gate_callee (f:=46) rfl ?_);refine goesL_ (some 19) rfl rfl Tryz.func46 zq19 rfl #[.pointer (some ⟨g,0,none⟩),.int .i64 8] rfl zq1 ?_;(with_reducible refine (spec_l00Src_pick.calls g s0_0 t108 t109 8 t110 t111 t112 w0 _ ?side1 ?side2 A8.out).mono ?_);(case side1=>exact zq10);(case side2=>exact zq9);rintro e w14 ⟨rfl,hi,hb,hk⟩;refine ⟨_,rfl,?_⟩;have n0_:=am (Kd.R_mono (Kd.R_keep (IsS78.apart (show IsS78 w0 _ g s0_0 t108 t109 from by repeat (first|(with_reducible first|exact HI0.out|apply IsS78.alloc|apply IsS78.drewN|apply IsS78.drew|apply IsS78.set_1|apply IsS78.set_2)|exact HI0.out)) zq8 (by decide)) hk (fun _ h=>h.2)) (fun _ h=>h.1));have n1_:=am (KeepBut.trans zq5 hk (.inl rfl));have n2_:=am (hb);have n3_:=am (hi);clear HO_3;clear HK;clear HB;clear HI0;have HO_3:=n0_;have HK:=n1_;have HB:=n2_;have HI0:=n3_;clear n0_ n1_ n2_ n3_;(try clear hb);(try clear hb2);(try clear hk);(try clear hi))|((with_reducible refine gate_dst (N:=5) rfl ?_);refine box_event ?hg (N:=5) ?hd (cs:=#[.int .i8 0,.int .i8 0,.int .i8 0]) (t:=52) ?hr ?_;(case hd=>rfl);(case hg=>rfl);(case hr=>exact zq12);intro gb113 hg w15 hbox hb;have n0_:=am (Kd.R_below (Kd.R_elderB zq8 gb113 (Nat.le_of_eq hg.symm)) hb);have n1_:=am (IsS78.below zq10 hb);have n2_:=am (KeepBut.trans zq5 (KeepBut.of_below hb g none) (.inl rfl));have n3_:=am (below_step zq9 hb);have n4_:=am (hbox);have n5_:=am ((by rw [hg];exact (keep_size (w:=w) (g:=g) (row:=none) zq5):w.heap.size≤gb113));have n6_:=am ((Nat.le_trans HW0.out (by rw [hg];exact (keep_size (w:=w) (g:=g) (row:=none) zq5):w.heap.size≤gb113):w0.heap.size≤gb113));have n7_:=am ((by rw [hg];exact Nat.ne_of_lt (IsS78.lt (show IsS78 w0 _ g s0_0 t111 t112 from by repeat (first|(with_reducible first|exact HI0.out|apply IsS78.alloc|apply IsS78.drewN|apply IsS78.drew|apply IsS78.set_1|apply IsS78.set_2)|exact HI0.out))):g≠gb113));have n8_:=am ((by rw [hg];exact Nat.ne_of_gt (IsS78.lt (show IsS78 w0 _ g s0_0 t111 t112 from by repeat (first|(with_reducible first|exact HI0.out|apply IsS78.alloc|apply IsS78.drewN|apply IsS78.drew|apply IsS78.set_1|apply IsS78.set_2)|exact HI0.out))):gb113≠g));clear HO_3;clear HI0;clear HK;clear HB;have HO_3:=n0_;have HI0:=n1_;have HK:=n2_;have HB:=n3_;have BK113:=n4_;have GW113:=n5_;have GE113:=n6_;have NB0_113:=n7_;have NB113_0:=n8_;clear n0_ n1_ n2_ n3_ n4_ n5_ n6_ n7_ n8_;clear hb hbox hg;have hnb16:=NB113_0.out;have hnc16:=NB0_113.out;have hcz17_0:w15.cell? ⟨gb113,0,none⟩=some (.int .i8 0):=(blk_cell BK113.out 0).trans rfl;have hcz17_1:w15.cell? ⟨gb113,1,none⟩=some (.int .i8 0):=(blk_cell BK113.out 1).trans rfl;have hcz17_2:w15.cell? ⟨gb113,2,none⟩=some (.int .i8 0):=(blk_cell BK113.out 2).trans rfl;have hfz17_0:=blk_frozen BK113.out 0;have hfz17_1:=blk_frozen BK113.out 1;have hfz17_2:=blk_frozen BK113.out 2)|((with_reducible refine gate_callee (f:=46) rfl ?_);refine goesL_ (some 23) rfl rfl Tryz.func46 zq19 rfl #[.pointer (some ⟨g,0,none⟩),.int .i64 5] rfl zq1 ?_;(with_reducible refine (spec_l00Src_pick.calls g s0_0 t111 t112 5 t114 t115 t116 w0 _ ?side1 ?side2 A9.out).mono ?_);(case side1=>exact zq20);(case side2=>exact zq21);rintro e w18 ⟨rfl,hi,hb,hk⟩;refine ⟨_,rfl,?_⟩;have n0_:=am (Kd.R_mono (Kd.R_keep (IsS78.apart (show IsS78 w0 _ g s0_0 t111 t112 from by repeat (first|(with_reducible first|exact HI0.out|apply IsS78.alloc|apply IsS78.drewN|apply IsS78.drew|apply IsS78.set_1|apply IsS78.set_2|refine IsS78.far ?_ NB0_113.out _)|exact HI0.out)) zq47 (by decide)) hk (fun _ h=>h.2)) (fun _ h=>h.1));have n1_:=am (KeepBut.blk hk (g':=gb113) (o:=.cells #[.int .i8 (IntKind.i8.wrap (wrap64 (1 + t107))),.int .i8 (IntKind.i8.wrap (t110)),.int .i8 0] 52 (0,0)) zq29 NB113_0.out (by simp));have n2_:=am (KeepBut.trans zq16 hk (.inl rfl));have n3_:=am (hb);have n4_:=am (hi);clear HO_3;clear BK113;clear HK;clear HB;clear HI0;have HO_3:=n0_;have BK113:=n1_;have HK:=n2_;have HB:=n3_;have HI0:=n4_;clear n0_ n1_ n2_ n3_ n4_;(try clear hb);(try clear hb2);(try clear hk);(try clear hi);have hcz19_0:w18.cell? ⟨gb113,0,none⟩=some (.int .i8 (IntKind.i8.wrap (wrap64 (1 + t107)))):=(blk_cell BK113.out 0).trans rfl;have hcz19_1:w18.cell? ⟨gb113,1,none⟩=some (.int .i8 (IntKind.i8.wrap (t110))):=(blk_cell BK113.out 1).trans rfl;have hcz19_2:w18.cell? ⟨gb113,2,none⟩=some (.int .i8 0):=(blk_cell BK113.out 2).trans rfl;have hfz19_0:=blk_frozen BK113.out 0;have hfz19_1:=blk_frozen BK113.out 1;have hfz19_2:=blk_frozen BK113.out 2)|((with_reducible refine gate_callee (f:=47) rfl ?_);refine goesL_ (some 27) rfl rfl Tryz.func47 zq19 rfl #[.pointer (some ⟨g,0,none⟩),.int .i64 16] rfl zq1 ?_;(with_reducible refine (spec_l00Src_one.calls g s0_0 t115 t116 16 true t118 t119 w0 _ ?side1 ?side2 A10.out).mono ?_);(case side1=>exact zq20);(case side2=>exact zq21);rintro e w20 ⟨rfl,hi,hb,hk⟩;refine ⟨_,rfl,?_⟩;have n0_:=am (Kd.R_mono (Kd.R_keep (IsS78.apart (show IsS78 w0 _ g s0_0 t115 t116 from by repeat (first|(with_reducible first|exact HI0.out|apply IsS78.alloc|apply IsS78.drewN|apply IsS78.drew|apply IsS78.set_1|apply IsS78.set_2|refine IsS78.far ?_ NB0_113.out _)|exact HI0.out)) zq63 (by decide)) hk (fun _ h=>h.2)) (fun _ h=>h.1));have n1_:=am (KeepBut.blk hk (g':=gb113) (o:=.cells #[.int .i8 (IntKind.i8.wrap (wrap64 (1 + t107))),.int .i8 (IntKind.i8.wrap (t110)),.int .i8 (IntKind.i8.wrap (t114))] 52 (0,0)) zq52 NB113_0.out (by simp));have n2_:=am (KeepBut.trans zq16 hk (.inl rfl));have n3_:=am (hb);have n4_:=am (hi);clear HO_3;clear BK113;clear HK;clear HB;clear HI0;have HO_3:=n0_;have BK113:=n1_;have HK:=n2_;have HB:=n3_;have HI0:=n4_;clear n0_ n1_ n2_ n3_ n4_;(try clear hb);(try clear hb2);(try clear hk);(try clear hi);have hcz21_0:w20.cell? ⟨gb113,0,none⟩=some (.int .i8 (IntKind.i8.wrap (wrap64 (1 + t107)))):=(blk_cell BK113.out 0).trans rfl;have hcz21_1:w20.cell? ⟨gb113,1,none⟩=some (.int .i8 (IntKind.i8.wrap (t110))):=(blk_cell BK113.out 1).trans rfl;have hcz21_2:w20.cell? ⟨gb113,2,none⟩=some (.int .i8 (IntKind.i8.wrap (t114))):=(blk_cell BK113.out 2).trans rfl;have hfz21_0:=blk_frozen BK113.out 0;have hfz21_1:=blk_frozen BK113.out 1;have hfz21_2:=blk_frozen BK113.out 2)|((with_reducible refine gate_builtin (b:=.append) (xs:=#[.tmp 29,.tmp 31]) rfl ?_);at_builtin;refine Kd.R_append k52 w.heap.size rfl (.tmp 29) (.tmp 31) 24 52 (.agg #[(.int .i8 0),(.int .i8 0),(.int .i8 0)]) 3 rfl Tryz.underlying24 info52 rfl (by decide) (by omega) u3 x3_1 (⟨0,IntKind.i8.wrap (t110),IntKind.i8.wrap (t114)⟩:S52) [.int .i8 0,.int .i8 (IntKind.i8.wrap (t110)),.int .i8 (IntKind.i8.wrap (t114))] (fun k_=>k_≠gb113) (fun _=>False) rfl zq12 ?aP (fun _ hk=>hk.elim) ?aF ?aO (Below.refl _ _) ?aS ?aL ?_;(case aP=>exact k52_mkM _ _ _ (⟨0,IntKind.i8.wrap (t110),IntKind.i8.wrap (t114)⟩:S52));(case aF=>exact (fun k_ hk=>Kd.freshB (g:=gb113) (o:=.cells #[.int .i8 0,.int .i8 (IntKind.i8.wrap (t110)),.int .i8 (IntKind.i8.wrap (t114))] 52 (0,0)) zq51 k_ hk));(case aO=>exact (by (with_reducible repeat (first|apply Kd.R_alloc|apply Kd.R_drewN|apply Kd.R_drew));exact Kd.R_mono (Kd.R_far (p:=⟨gb113,0,none⟩) (Kd.R_mono HO_3.out (fun k_ hk=>(⟨hk,hk.2⟩:_∧k_≠gb113))) (fun _ hk=>hk.2) (.int .i8 0)) (fun _ hk=>hk.1.2)));(case aS=>exact (keep_size (w:=w) (g:=g) (row:=none) zq16));(case aL=>have:=LMc12.out;omega);intro v121 w22 ho hb hg hat;rw [← Ny120.out] at ho;have n0_:=am (IsS78.grown ((fun a0_ a1_ a2_ (_:IsS78 w0 _ g a0_ a1_ a2_) (h_:IsS78 w0 _ g a0_ a1_ a2_)=>h_) _ _ _ HI0.out zq20) hg (IsS78.own_ne HI0.out HO_3.out (by decide)));have n1_:=am (blk_grown (g:=gb113) (o:=.cells #[.int .i8 0,.int .i8 (IntKind.i8.wrap (t110)),.int .i8 (IntKind.i8.wrap (t114))] 52 (0,0)) zq51 hg (Kd.R_away HO_3.out (fun _ hk=>hk.2)));have n2_:=am (below_weaken zq21 HL.out hb);have n3_:=am (KeepBut.trans zq16 (KeepBut.of_grown hg g) (Kd.R_base2 HO_3.out));have n4_:=am (ho);clear HI0;clear BK113;clear HB;clear HK;clear HO_3;have HI0:=n0_;have BK113:=n1_;have HB:=n2_;have HK:=n3_;have HO122:=n4_;clear n0_ n1_ n2_ n3_ n4_;clear ho hb hg hat))
      go_roundg k1
      case measure=>have:=HK1.out;omega
      case rel=>exact ⟨(y120),(wrap64 (x4_1 - 1)),(t118),(t119),zq3,H',⟨by have:=HK1.out;omega⟩,⟨by (with_reducible repeat (first|apply Kd.R_alloc|apply Kd.R_drewN|apply Kd.R_drew));exact Kd.R_mono HO122.out (fun _ hk=>trivial)⟩,⟨by repeat (first|(with_reducible first|exact HI0.out|apply IsS78.alloc|apply IsS78.drewN|apply IsS78.drew|apply IsS78.set_1|apply IsS78.set_2|refine IsS78.far ?_ NB0_113.out _)|exact HI0.out)⟩,⟨by repeat (first|(with_reducible first|exact HK.out|apply KeepBut.set_|apply keep_drewN|apply keep_drew|apply keep_alloc|refine keep_far ?_ GW113.out _)|exact HK.out)⟩,⟨by repeat (first|(with_reducible first|exact HB.out|apply below_alloc|apply pw_below_drewN|apply below_drew1|refine below_set ?_ (IsS78.ge HI0.out)|refine below_set ?_ GE113.out)|exact HB.out)⟩⟩
     ·rw [if_neg c12] at H;exact absurd H (by simp)
    ·replace c11:=Bool.eq_false_iff.mpr c11;subst c11
     have H1:(if x3_1.length < 46912496118442 then (spec_l06Drawn.l0 k1 (x3_1 ++ [(⟨IntKind.i8.wrap (wrap64 (1 + t107)),IntKind.i8.wrap (t110),IntKind.i8.wrap (t114)⟩:S52)]) (wrap64 (x4_1 - 1)) s0_0 t118 t119) else (none))=some (r1,r2,r3):=by rw [if_neg (show ¬ (false=true) by decide)] at H;exact H
     clear H;have H:=H1;clear H1
     by_cases c23:x3_1.length < 46912496118442
     ·rw [if_pos c23] at H;have LMc23:=am c23;clear c23;obtain ⟨y123,hy123⟩:∃ y_:List (S52),y_=(x3_1 ++ [(⟨IntKind.i8.wrap (wrap64 (1 + t107)),IntKind.i8.wrap (t110),IntKind.i8.wrap (t114)⟩:S52)]):=⟨_,rfl⟩
      replace H:(spec_l06Drawn.l0 k1 y123 (wrap64 (x4_1 - 1)) s0_0 t118 t119)=some (r1,r2,r3):=by first|(rw [hy123];with_reducible exact H)|(have H2_:=(Option.bind_some _ _).symm.trans H;rw [hy123];with_reducible exact H2_)|(have H2_:=(Option.bind_some _ _).symm.trans H;with_reducible exact H2_)|with_reducible exact H|(rw [hy123];exact H)|exact H
      have Ny123:=am hy123;clear hy123;have H':=am H;clear H
      go_wp2_with (first|((with_reducible refine gate_callee (f:=46) rfl ?_);refine goesL_ (some 15) rfl rfl Tryz.func46 zq19 rfl #[.pointer (some ⟨g,0,none⟩),.int .i64 3] rfl zq1 ?_;(with_reducible refine (spec_l00Src_pick.calls g s0_0 x1001_1 x1002_1 3 t107 t108 t109 w0 _ ?side1 ?side2 A7.out).mono ?_);(case side1=>exact zq10);(case side2=>exact zq9);rintro e w24 ⟨rfl,hi,hb,hk⟩;refine ⟨_,rfl,?_⟩;have n0_:=am (Kd.R_mono (Kd.R_keep (IsS78.apart (show IsS78 w0 _ g s0_0 x1001_1 x1002_1 from by repeat (first|(with_reducible first|exact HI0.out|apply IsS78.alloc|apply IsS78.drewN|apply IsS78.drew|apply IsS78.set_1|apply IsS78.set_2)|exact HI0.out)) zq8 (by decide)) hk (fun _ h=>h.2)) (fun _ h=>h.1));have n1_:=am (KeepBut.trans zq5 hk (.inl rfl));have n2_:=am (hb);have n3_:=am (hi);clear HO_3;clear HK;clear HB;clear HI0;have HO_3:=n0_;have HK:=n1_;have HB:=n2_;have HI0:=n3_;clear n0_ n1_ n2_ n3_;(try clear hb);(try clear hb2);(try clear hk);(try clear hi))|((with_reducible refine gate_callee (f:=46) rfl ?_);refine goesL_ (some 19) rfl rfl Tryz.func46 zq19 rfl #[.pointer (some ⟨g,0,none⟩),.int .i64 8] rfl zq1 ?_;(with_reducible refine (spec_l00Src_pick.calls g s0_0 t108 t109 8 t110 t111 t112 w0 _ ?side1 ?side2 A8.out).mono ?_);(case side1=>exact zq10);(case side2=>exact zq9);rintro e w25 ⟨rfl,hi,hb,hk⟩;refine ⟨_,rfl,?_⟩;have n0_:=am (Kd.R_mono (Kd.R_keep (IsS78.apart (show IsS78 w0 _ g s0_0 t108 t109 from by repeat (first|(with_reducible first|exact HI0.out|apply IsS78.alloc|apply IsS78.drewN|apply IsS78.drew|apply IsS78.set_1|apply IsS78.set_2)|exact HI0.out)) zq8 (by decide)) hk (fun _ h=>h.2)) (fun _ h=>h.1));have n1_:=am (KeepBut.trans zq5 hk (.inl rfl));have n2_:=am (hb);have n3_:=am (hi);clear HO_3;clear HK;clear HB;clear HI0;have HO_3:=n0_;have HK:=n1_;have HB:=n2_;have HI0:=n3_;clear n0_ n1_ n2_ n3_;(try clear hb);(try clear hb2);(try clear hk);(try clear hi))|((with_reducible refine gate_dst (N:=5) rfl ?_);refine box_event ?hg (N:=5) ?hd (cs:=#[.int .i8 0,.int .i8 0,.int .i8 0]) (t:=52) ?hr ?_;(case hd=>rfl);(case hg=>rfl);(case hr=>exact zq12);intro gb113 hg w26 hbox hb;have n0_:=am (Kd.R_below (Kd.R_elderB zq8 gb113 (Nat.le_of_eq hg.symm)) hb);have n1_:=am (IsS78.below zq10 hb);have n2_:=am (KeepBut.trans zq5 (KeepBut.of_below hb g none) (.inl rfl));have n3_:=am (below_step zq9 hb);have n4_:=am (hbox);have n5_:=am ((by rw [hg];exact (keep_size (w:=w) (g:=g) (row:=none) zq5):w.heap.size≤gb113));have n6_:=am ((Nat.le_trans HW0.out (by rw [hg];exact (keep_size (w:=w) (g:=g) (row:=none) zq5):w.heap.size≤gb113):w0.heap.size≤gb113));have n7_:=am ((by rw [hg];exact Nat.ne_of_lt (IsS78.lt (show IsS78 w0 _ g s0_0 t111 t112 from by repeat (first|(with_reducible first|exact HI0.out|apply IsS78.alloc|apply IsS78.drewN|apply IsS78.drew|apply IsS78.set_1|apply IsS78.set_2)|exact HI0.out))):g≠gb113));have n8_:=am ((by rw [hg];exact Nat.ne_of_gt (IsS78.lt (show IsS78 w0 _ g s0_0 t111 t112 from by repeat (first|(with_reducible first|exact HI0.out|apply IsS78.alloc|apply IsS78.drewN|apply IsS78.drew|apply IsS78.set_1|apply IsS78.set_2)|exact HI0.out))):gb113≠g));clear HO_3;clear HI0;clear HK;clear HB;have HO_3:=n0_;have HI0:=n1_;have HK:=n2_;have HB:=n3_;have BK113:=n4_;have GW113:=n5_;have GE113:=n6_;have NB0_113:=n7_;have NB113_0:=n8_;clear n0_ n1_ n2_ n3_ n4_ n5_ n6_ n7_ n8_;clear hb hbox hg;have hnb27:=NB113_0.out;have hnc27:=NB0_113.out;have hcz28_0:w26.cell? ⟨gb113,0,none⟩=some (.int .i8 0):=(blk_cell BK113.out 0).trans rfl;have hcz28_1:w26.cell? ⟨gb113,1,none⟩=some (.int .i8 0):=(blk_cell BK113.out 1).trans rfl;have hcz28_2:w26.cell? ⟨gb113,2,none⟩=some (.int .i8 0):=(blk_cell BK113.out 2).trans rfl;have hfz28_0:=blk_frozen BK113.out 0;have hfz28_1:=blk_frozen BK113.out 1;have hfz28_2:=blk_frozen BK113.out 2)|((with_reducible refine gate_callee (f:=46) rfl ?_);refine goesL_ (some 23) rfl rfl Tryz.func46 zq19 rfl #[.pointer (some ⟨g,0,none⟩),.int .i64 5] rfl zq1 ?_;(with_reducible refine (spec_l00Src_pick.calls g s0_0 t111 t112 5 t114 t115 t116 w0 _ ?side1 ?side2 A9.out).mono ?_);(case side1=>exact zq20);(case side2=>exact zq21);rintro e w29 ⟨rfl,hi,hb,hk⟩;refine ⟨_,rfl,?_⟩;have n0_:=am (Kd.R_mono (Kd.R_keep (IsS78.apart (show IsS78 w0 _ g s0_0 t111 t112 from by repeat (first|(with_reducible first|exact HI0.out|apply IsS78.alloc|apply IsS78.drewN|apply IsS78.drew|apply IsS78.set_1|apply IsS78.set_2|refine IsS78.far ?_ NB0_113.out _)|exact HI0.out)) zq47 (by decide)) hk (fun _ h=>h.2)) (fun _ h=>h.1));have n1_:=am (KeepBut.blk hk (g':=gb113) (o:=.cells #[.int .i8 (IntKind.i8.wrap (wrap64 (1 + t107))),.int .i8 (IntKind.i8.wrap (t110)),.int .i8 0] 52 (0,0)) zq29 NB113_0.out (by simp));have n2_:=am (KeepBut.trans zq16 hk (.inl rfl));have n3_:=am (hb);have n4_:=am (hi);clear HO_3;clear BK113;clear HK;clear HB;clear HI0;have HO_3:=n0_;have BK113:=n1_;have HK:=n2_;have HB:=n3_;have HI0:=n4_;clear n0_ n1_ n2_ n3_ n4_;(try clear hb);(try clear hb2);(try clear hk);(try clear hi);have hcz30_0:w29.cell? ⟨gb113,0,none⟩=some (.int .i8 (IntKind.i8.wrap (wrap64 (1 + t107)))):=(blk_cell BK113.out 0).trans rfl;have hcz30_1:w29.cell? ⟨gb113,1,none⟩=some (.int .i8 (IntKind.i8.wrap (t110))):=(blk_cell BK113.out 1).trans rfl;have hcz30_2:w29.cell? ⟨gb113,2,none⟩=some (.int .i8 0):=(blk_cell BK113.out 2).trans rfl;have hfz30_0:=blk_frozen BK113.out 0;have hfz30_1:=blk_frozen BK113.out 1;have hfz30_2:=blk_frozen BK113.out 2)|((with_reducible refine gate_callee (f:=47) rfl ?_);refine goesL_ (some 27) rfl rfl Tryz.func47 zq19 rfl #[.pointer (some ⟨g,0,none⟩),.int .i64 16] rfl zq1 ?_;(with_reducible refine (spec_l00Src_one.calls g s0_0 t115 t116 16 false t118 t119 w0 _ ?side1 ?side2 A10.out).mono ?_);(case side1=>exact zq20);(case side2=>exact zq21);rintro e w31 ⟨rfl,hi,hb,hk⟩;refine ⟨_,rfl,?_⟩;have n0_:=am (Kd.R_mono (Kd.R_keep (IsS78.apart (show IsS78 w0 _ g s0_0 t115 t116 from by repeat (first|(with_reducible first|exact HI0.out|apply IsS78.alloc|apply IsS78.drewN|apply IsS78.drew|apply IsS78.set_1|apply IsS78.set_2|refine IsS78.far ?_ NB0_113.out _)|exact HI0.out)) zq63 (by decide)) hk (fun _ h=>h.2)) (fun _ h=>h.1));have n1_:=am (KeepBut.blk hk (g':=gb113) (o:=.cells #[.int .i8 (IntKind.i8.wrap (wrap64 (1 + t107))),.int .i8 (IntKind.i8.wrap (t110)),.int .i8 (IntKind.i8.wrap (t114))] 52 (0,0)) zq52 NB113_0.out (by simp));have n2_:=am (KeepBut.trans zq16 hk (.inl rfl));have n3_:=am (hb);have n4_:=am (hi);clear HO_3;clear BK113;clear HK;clear HB;clear HI0;have HO_3:=n0_;have BK113:=n1_;have HK:=n2_;have HB:=n3_;have HI0:=n4_;clear n0_ n1_ n2_ n3_ n4_;(try clear hb);(try clear hb2);(try clear hk);(try clear hi);have hcz32_0:w31.cell? ⟨gb113,0,none⟩=some (.int .i8 (IntKind.i8.wrap (wrap64 (1 + t107)))):=(blk_cell BK113.out 0).trans rfl;have hcz32_1:w31.cell? ⟨gb113,1,none⟩=some (.int .i8 (IntKind.i8.wrap (t110))):=(blk_cell BK113.out 1).trans rfl;have hcz32_2:w31.cell? ⟨gb113,2,none⟩=some (.int .i8 (IntKind.i8.wrap (t114))):=(blk_cell BK113.out 2).trans rfl;have hfz32_0:=blk_frozen BK113.out 0;have hfz32_1:=blk_frozen BK113.out 1;have hfz32_2:=blk_frozen BK113.out 2)|((with_reducible refine gate_builtin (b:=.append) (xs:=#[.tmp 29,.tmp 31]) rfl ?_);at_builtin;refine Kd.R_append k52 w.heap.size rfl (.tmp 29) (.tmp 31) 24 52 (.agg #[(.int .i8 0),(.int .i8 0),(.int .i8 0)]) 3 rfl Tryz.underlying24 info52 rfl (by decide) (by omega) u3 x3_1 (⟨IntKind.i8.wrap (wrap64 (1 + t107)),IntKind.i8.wrap (t110),IntKind.i8.wrap (t114)⟩:S52) [.int .i8 (IntKind.i8.wrap (wrap64 (1 + t107))),.int .i8 (IntKind.i8.wrap (t110)),.int .i8 (IntKind.i8.wrap (t114))] (fun k_=>k_≠gb113) (fun _=>False) rfl rfl ?aP (fun _ hk=>hk.elim) ?aF ?aO (Below.refl _ _) ?aS ?aL ?_;(case aP=>exact k52_mkM _ _ _ (⟨IntKind.i8.wrap (wrap64 (1 + t107)),IntKind.i8.wrap (t110),IntKind.i8.wrap (t114)⟩:S52));(case aF=>exact (fun k_ hk=>Kd.freshB (g:=gb113) (o:=.cells #[.int .i8 (IntKind.i8.wrap (wrap64 (1 + t107))),.int .i8 (IntKind.i8.wrap (t110)),.int .i8 (IntKind.i8.wrap (t114))] 52 (0,0)) zq83 k_ hk));(case aO=>exact (by (with_reducible repeat (first|apply Kd.R_alloc|apply Kd.R_drewN|apply Kd.R_drew));exact Kd.R_mono HO_3.out (fun _ hk=>hk.2)));(case aS=>exact (keep_size (w:=w) (g:=g) (row:=none) zq16));(case aL=>have:=LMc23.out;omega);intro v124 w33 ho hb hg hat;rw [← Ny123.out] at ho;have n0_:=am (IsS78.grown ((fun a0_ a1_ a2_ (_:IsS78 w0 _ g a0_ a1_ a2_) (h_:IsS78 w0 _ g a0_ a1_ a2_)=>h_) _ _ _ HI0.out zq20) hg (IsS78.own_ne HI0.out HO_3.out (by decide)));have n1_:=am (blk_grown (g:=gb113) (o:=.cells #[.int .i8 (IntKind.i8.wrap (wrap64 (1 + t107))),.int .i8 (IntKind.i8.wrap (t110)),.int .i8 (IntKind.i8.wrap (t114))] 52 (0,0)) zq83 hg (Kd.R_away HO_3.out (fun _ hk=>hk.2)));have n2_:=am (below_weaken zq21 HL.out hb);have n3_:=am (KeepBut.trans zq16 (KeepBut.of_grown hg g) (Kd.R_base2 HO_3.out));have n4_:=am (ho);clear HI0;clear BK113;clear HB;clear HK;clear HO_3;have HI0:=n0_;have BK113:=n1_;have HB:=n2_;have HK:=n3_;have HO125:=n4_;clear n0_ n1_ n2_ n3_ n4_;clear ho hb hg hat))
      go_roundg k1
      case measure=>have:=HK1.out;omega
      case rel=>exact ⟨(y123),(wrap64 (x4_1 - 1)),(t118),(t119),zq3,H',⟨by have:=HK1.out;omega⟩,⟨by (with_reducible repeat (first|apply Kd.R_alloc|apply Kd.R_drewN|apply Kd.R_drew));exact Kd.R_mono HO125.out (fun _ hk=>trivial)⟩,⟨by repeat (first|(with_reducible first|exact HI0.out|apply IsS78.alloc|apply IsS78.drewN|apply IsS78.drew|apply IsS78.set_1|apply IsS78.set_2|refine IsS78.far ?_ NB0_113.out _)|exact HI0.out)⟩,⟨by repeat (first|(with_reducible first|exact HK.out|apply KeepBut.set_|apply keep_drewN|apply keep_drew|apply keep_alloc|refine keep_far ?_ GW113.out _)|exact HK.out)⟩,⟨by repeat (first|(with_reducible first|exact HB.out|apply below_alloc|apply pw_below_drewN|apply below_drew1|refine below_set ?_ (IsS78.ge HI0.out)|refine below_set ?_ GE113.out)|exact HB.out)⟩⟩
     ·rw [if_neg c23] at H;exact absurd H (by simp)
   ·rw [if_neg c6] at H;have c6b0:decide (0 < x4_1)=false:=decide_eq_false c6;clear c6;simp only [Option.some.injEq,Prod.mk.injEq] at H;obtain ⟨rfl,rfl,rfl⟩:=H
    go_wp2
    go_ret
    exact ⟨_,by first|rfl|(simp [errW_none,errW_some,IntKind.wrap_i64,wrap64];done)|(simp [errW_none,errW_some] <;> rfl)|(simp [*,errW_none,errW_some] <;> rfl),by (with_reducible repeat (first|apply Kd.R_alloc|apply Kd.R_drewN|apply Kd.R_drew));exact HO_3.out,by repeat (first|(with_reducible first|exact HI0.out|apply IsS78.alloc|apply IsS78.drewN|apply IsS78.drew|apply IsS78.set_1|apply IsS78.set_2)|exact HI0.out),by repeat (first|(with_reducible first|exact HB.out|apply below_alloc|apply pw_below_drewN|apply below_drew1|refine below_set ?_ (IsS78.ge HI0.out))|exact HB.out),by repeat (first|(with_reducible first|exact HK.out|apply KeepBut.set_|apply keep_drewN|apply keep_drew|apply keep_alloc)|exact HK.out)⟩
def spec_A2Line.f (k:Nat) (l0:List Int):Option ((List (S52))):=(spec_l00From.f l0).bind fun bt101=>((spec_l06Drawn.f k bt101.1 bt101.2.1 bt101.2.2).bind fun bt105=>(some bt105.1))
set_option maxHeartbeats 8000000 in
set_option maxRecDepth 100000 in
theorem spec_A2Line.calls (k:Nat) (A0:Option Addr) (c0:Nat) (l0:List Int) (r:List (S52)) (w:World) (hr0:Kd.C (Kd.int .u8) w A0 l0.length l0) (hc0:l0.length≤c0) (h:spec_A2Line.f k l0=some r) :
  Calls Tryz.prog 5 #[.slice A0 l0.length c0] w fun e w'=>∃ v0_:Value,e=.returned (v0_)∧Kd.R k52 52 w' w.heap.size (fun _=>True) v0_ r∧Below w.heap.size w w':=by
 have HR0:=am hr0;have HC0:=am hc0;clear hr0 hc0;have HB:=am (Below.refl w.heap.size w);have H:((spec_l00From.f l0).bind fun bt101=>((spec_l06Drawn.f k bt101.1 bt101.2.1 bt101.2.2).bind fun bt105=>(some bt105.1)))=some r:=h;clear h;replace H:=Option.bind_eq_some_iff.mp H;obtain ⟨⟨t101,t102,t103⟩,A20,H⟩:=H;replace H:((spec_l06Drawn.f k t101 t102 t103).bind fun bt105=>(some bt105.1))=some r:=H;have A2:=am A20;clear A20;replace H:=Option.bind_eq_some_iff.mp H;obtain ⟨⟨t105,t108,t109⟩,A30,H⟩:=H;replace H:(some t105)=some r:=H;have A3:=am A30;clear A30;obtain rfl:=Option.some.inj H
 go_enter Tryz.func5,Tryz.ntmps5
 go_wp2_with (first|((with_reducible refine gate_callee (f:=26) rfl ?_);refine goesL_ (some 4) rfl rfl Tryz.func26 zq19 rfl #[.slice A0 l0.length c0] rfl zq1 ?_;(with_reducible refine (spec_l00From.calls _ _ l0 t101 t102 t103 w _ ?side1 ?side2 ?side3 A2.out).mono ?_);(case side1=>exact zq0);(case side2=>exact HR0.out);(case side3=>exact HC0.out);rintro e w4 ⟨g104,rfl,hi,hb,hb2⟩;refine ⟨_,rfl,?_⟩;have n0_:=am (hb);have n1_:=am (hi);clear HB;have HB:=n0_;have HI104:=n1_;clear n0_ n1_;(try clear hb);(try clear hb2);(try clear hk);(try clear hi))|((with_reducible refine gate_callee (f:=25) rfl ?_);refine goesL_ (some 5) rfl rfl Tryz.func25 zq19 rfl #[.pointer (some ⟨g104,0,none⟩)] rfl zq1 ?_;(with_reducible refine (spec_l06Drawn.calls k g104 t101 t102 t103 t105 t108 t109 w _ ?side1 ?side2 A3.out).mono ?_);(case side1=>repeat (first|(with_reducible first|exact HI104.out|apply IsS78.alloc|apply IsS78.drewN|apply IsS78.drew|apply IsS78.set_1|apply IsS78.set_2)|exact HI104.out));(case side2=>exact zq71);rintro e w5 ⟨v106,rfl,ho0,hi,hb,hk⟩;refine ⟨_,rfl,?_⟩;have n0_:=am (Kd.R_lower ho0 (below_size zq71));have n1_:=am (hb);have n2_:=am (hi);clear HB;clear HI104;have HO107:=n0_;have HB:=n1_;have HI104:=n2_;clear n0_ n1_ n2_;(try clear hb);(try clear hb2);(try clear hk);(try clear hi);(try clear ho0)))
 go_ret
 exact ⟨_,by first|rfl|(simp [errW_none,errW_some,IntKind.wrap_i64,wrap64];done)|(simp [errW_none,errW_some] <;> rfl)|(simp [*,errW_none,errW_some] <;> rfl),by (with_reducible repeat (first|apply Kd.R_alloc|apply Kd.R_drewN|apply Kd.R_drew));exact HO107.out,by repeat (first|(with_reducible first|exact HB.out|apply below_alloc|apply pw_below_drewN|apply below_drew1|refine below_set ?_ (IsS78.ge HI104.out))|exact HB.out)⟩
def spec_l00Same.l0:Nat→List Int→List Int→Int→Option (Bool)
 | 0,_,_,_=>none
 | k + 1,x0,x1,x5=>if x5 < (x0.length:Int) then (if 0≤x5 then (if x5 < (x1.length:Int) then (if (rd x0 x5)=(rd x1 x5) then (spec_l00Same.l0 k x0 x1 (wrap64 (x5 + 1))) else (some false)) else (none)) else (none)) else (some true)
def spec_l00Same.f (k:Nat) (l0:List Int) (l1:List Int):Option (Bool):=if (l0.length:Int)=(l1.length:Int) then (spec_l00Same.l0 k l0 l1 0) else (some false)
set_option maxHeartbeats 8000000 in
set_option maxRecDepth 100000 in
theorem spec_l00Same.calls (k:Nat) (A0:Option Addr) (c0:Nat) (l0:List Int) (A1:Option Addr) (c1:Nat) (l1:List Int) (r:Bool) (w:World) (hr0:Kd.C (Kd.int .i64) w A0 l0.length l0) (hc0:l0.length≤c0) (hr1:Kd.C (Kd.int .i64) w A1 l1.length l1) (hc1:l1.length≤c1) (h:spec_l00Same.f k l0 l1=some r) :
  Calls Tryz.prog 43 #[.slice A0 l0.length c0,.slice A1 l1.length c1] w fun e w'=>e=.returned (.bool r)∧Drawn0 w w':=by
 have HR0:=am hr0;have HC0:=am hc0;clear hr0 hc0;have HR1:=am hr1;have HC1:=am hc1;clear hr1 hc1;have H:(if (l0.length:Int)=(l1.length:Int) then (spec_l00Same.l0 k l0 l1 0) else (some false))=some r:=h;clear h
 by_cases c3:(l0.length:Int)=(l1.length:Int)
 ·rw [if_pos c3] at H;have c3b0:=beq_iff_eq.mpr c3;have c3b1:=bne_eq_false_iff_eq.mpr c3
  have c3b2:(l0.length == l1.length)=true:=by first|simpa using c3|(simp at c3 ⊢;omega)
  clear c3;have H':=am H;clear H
  go_enter Tryz.func43,Tryz.ntmps43
  go_wp2
  repeat (go_quiet (fail);try go_wp2)
  go_loopg [5] k (fun kq v5 w'=>∃ (x5_1:Int),v5=.int .i64 x5_1∧Aside0 (spec_l00Same.l0 kq l0 l1 x5_1=some r)∧Aside0 (kq≤k)∧Drawn0 w w')
  case atStart=>exact ⟨(0),zq3,H',⟨Nat.le_refl _⟩,by repeat (first|exact Drawn0.refl _|apply Drawn0.step)⟩
  case round =>
   clear H';(try clear c1);(try clear p2);(try clear c3);(try clear c3b0);(try clear c3b1);(try clear c3b2);obtain ⟨x5_1,rfl,HA,HK1,⟨m1,rfl⟩⟩:=hrel
   cases gk with
   | zero=>exact absurd HA.out (by simp [spec_l00Same.l0])
   | succ k1 =>
    have H:=HA.out;clear HA;simp only [spec_l00Same.l0] at H
    by_cases c4:x5_1 < (l0.length:Int)
    ·rw [if_pos c4] at H;have c4b0:=decide_eq_true c4;clear c4
     by_cases c5:0≤x5_1
     ·rw [if_pos c5] at H;have c5b0:=decide_eq_true c5;clear c5
      by_cases c6:x5_1 < (l1.length:Int)
      ·rw [if_pos c6] at H;have c6b0:=decide_eq_true c6;clear c6
       by_cases c7:(rd l0 x5_1)=(rd l1 x5_1)
       ·rw [if_pos c7] at H;have c7b0:=beq_iff_eq.mpr c7;have c7b1:=bne_eq_false_iff_eq.mpr c7;clear c7;have H':=am H;clear H;have p101:0≤(x5_1:Int):=of_decide_eq_true zq2;have q101:x5_1 < (l0.length:Int):=of_decide_eq_true zq2;obtain ⟨ad101,e101,hx101_0⟩:=Kd.at_int HR0.out x5_1 p101 q101;cases e101;replace p101:=eq_true p101;replace q101:=eq_true q101;have p102:0≤(x5_1:Int):=of_decide_eq_true zq2;have q102:x5_1 < (l1.length:Int):=of_decide_eq_true zq2;obtain ⟨ad102,e102,hx102_0⟩:=Kd.at_int HR1.out x5_1 p102 q102;cases e102;replace p102:=eq_true p102;replace q102:=eq_true q102
        go_wp2
        repeat (go_quiet (fail);try go_wp2)
        go_roundg k1
        case measure=>have:=HK1.out;omega
        case rel=>exact ⟨(wrap64 (x5_1 + 1)),zq3,H',⟨by have:=HK1.out;omega⟩,by repeat (first|exact Drawn0.refl _|apply Drawn0.step)⟩
       ·rw [if_neg c7] at H;have c7b0:=beq_eq_false_iff_ne.mpr c7;have c7b1:=bne_iff_ne.mpr c7;obtain rfl:=Option.some.inj H;have p101:0≤(x5_1:Int):=of_decide_eq_true zq2;have q101:x5_1 < (l0.length:Int):=of_decide_eq_true zq2;obtain ⟨ad101,e101,hx101_0⟩:=Kd.at_int HR0.out x5_1 p101 q101;cases e101;replace p101:=eq_true p101;replace q101:=eq_true q101;have p102:0≤(x5_1:Int):=of_decide_eq_true zq2;have q102:x5_1 < (l1.length:Int):=of_decide_eq_true zq2;obtain ⟨ad102,e102,hx102_0⟩:=Kd.at_int HR1.out x5_1 p102 q102;cases e102;replace p102:=eq_true p102;replace q102:=eq_true q102
        go_wp2
        repeat (go_quiet (fail);try go_wp2)
        go_ret
        exact ⟨by first|rfl|(simp only [IntKind.wrap_i64,wrap64];done)|(simp;done)|(simp [*];done),by repeat (first|exact Drawn0.refl _|apply Drawn0.step)⟩
      ·rw [if_neg c6] at H;exact absurd H (by simp)
     ·rw [if_neg c5] at H;exact absurd H (by simp)
    ·rw [if_neg c4] at H;have c4b0:=decide_eq_false c4;clear c4;obtain rfl:=Option.some.inj H
     go_wp2
     repeat (go_quiet (fail);try go_wp2)
     go_ret
     exact ⟨by first|rfl|(simp only [IntKind.wrap_i64,wrap64];done)|(simp;done)|(simp [*];done),by repeat (first|exact Drawn0.refl _|apply Drawn0.step)⟩
 ·rw [if_neg c3] at H;have c3b0:=beq_eq_false_iff_ne.mpr c3;have c3b1:=bne_iff_ne.mpr c3
  have c3b2:(l0.length == l1.length)=false:=by first|simpa using c3|(simp at c3 ⊢;omega)
  obtain rfl:=Option.some.inj H
  go_enter Tryz.func43,Tryz.ntmps43
  go_wp2
  repeat (go_quiet (fail);try go_wp2)
  go_ret
  exact ⟨by first|rfl|(simp only [IntKind.wrap_i64,wrap64];done)|(simp;done)|(simp [*];done),by repeat (first|exact Drawn0.refl _|apply Drawn0.step)⟩
def spec_A2Same.f (k:Nat) (l0:List Int) (l1:List Int):Option (Bool):=(spec_l00Same.f k l0 l1).bind fun t101=>(some t101)
set_option maxHeartbeats 8000000 in
set_option maxRecDepth 100000 in
theorem spec_A2Same.calls (k:Nat) (A0:Option Addr) (c0:Nat) (l0:List Int) (A1:Option Addr) (c1:Nat) (l1:List Int) (r:Bool) (w:World) (hr0:Kd.C (Kd.int .i64) w A0 l0.length l0) (hc0:l0.length≤c0) (hr1:Kd.C (Kd.int .i64) w A1 l1.length l1) (hc1:l1.length≤c1) (h:spec_A2Same.f k l0 l1=some r) :
  Calls Tryz.prog 20 #[.slice A0 l0.length c0,.slice A1 l1.length c1] w fun e w'=>e=.returned (.bool r)∧Drawn0 w w':=by
 have HR0:=am hr0;have HC0:=am hc0;clear hr0 hc0;have HR1:=am hr1;have HC1:=am hc1;clear hr1 hc1;have H:((spec_l00Same.f k l0 l1).bind fun t101=>(some t101))=some r:=h;clear h;replace H:=Option.bind_eq_some_iff.mp H;obtain ⟨t101,A30,H⟩:=H;replace H:(some t101)=some r:=H;have A3:=am A30;clear A30;obtain rfl:=Option.some.inj H
 go_enter Tryz.func20,Tryz.ntmps20
 go_wp2_with (first|((with_reducible refine gate_callee (f:=43) rfl ?_);refine goesL_ (some 7) rfl rfl Tryz.func43 zq19 rfl #[.slice A0 l0.length c0,.slice A1 l1.length c1] rfl zq1 ?_;(with_reducible refine (spec_l00Same.calls k _ _ l0 _ _ l1 t101 _ ?side1 ?side2 ?side3 ?side4 A3.out).mono ?_);(case side1=>exact zq4);(case side2=>exact HC0.out);(case side3=>exact zq46);(case side4=>exact HC1.out);rintro e w' ⟨rfl,⟨nd,rfl⟩⟩;refine ⟨_,rfl,?_⟩))
 go_ret
 exact ⟨by first|rfl|(simp only [IntKind.wrap_i64,wrap64];done)|(simp;done)|(simp [*];done),by repeat (first|exact Drawn0.refl _|apply Drawn0.step)⟩
end Go.Proofs.YtcoepebmmgcplabGreatDoor.G
end
section
namespace Go.Proofs.YtcoepebmmgcplabGreatDoor.G
open Go.RowKit Go.Proofs.YtcoepebmmgcplabGreatDoorW.PrintWords Go.Proofs.YtcoepebmmgcplabGreatDoorW.PrintLast Go.Proofs.YtcoepebmmgcplabGreatDoorW.PrintMore
attribute [local go_sem] max2_int min2_int max_two min_two max_three min_three max_four min_four
set_option linter.unusedVariables false
set_option linter.unusedSimpArgs false
attribute [local go_sem high] eqA52
def spec_A2SameLine.l0:Nat→List (S52)→List (S52)→Int→Option (Bool)
 | 0,_,_,_=>none
 | k + 1,x0,x1,x5=>if x5 < (x0.length:Int) then (if 0≤x5 then (if x5 < (x1.length:Int) then (if (!(((rd_T52 x0 x5).f0) == ((rd_T52 x1 x5).f0)) || (!(((rd_T52 x0 x5).f1) == ((rd_T52 x1 x5).f1)) || (!(((rd_T52 x0 x5).f2) == ((rd_T52 x1 x5).f2)))))=true then (some false) else (spec_A2SameLine.l0 k x0 x1 (wrap64 (x5 + 1)))) else (none)) else (none)) else (some true)
def spec_A2SameLine.f (k:Nat) (l0:List (S52)) (l1:List (S52)):Option (Bool):=if (l0.length:Int)=(l1.length:Int) then (spec_A2SameLine.l0 k l0 l1 0) else (some false)
set_option maxHeartbeats 8000000 in
set_option maxRecDepth 100000 in
theorem spec_A2SameLine.calls (k:Nat) (A0:Option Addr) (c0:Nat) (l0:List (S52)) (A1:Option Addr) (c1:Nat) (l1:List (S52)) (r:Bool) (w:World) (hr0:Kd.C k52 w A0 l0.length l0) (hc0:l0.length≤c0) (hr1:Kd.C k52 w A1 l1.length l1) (hc1:l1.length≤c1) (h:spec_A2SameLine.f k l0 l1=some r) :
  Calls Tryz.prog 18 #[.slice A0 l0.length c0,.slice A1 l1.length c1] w fun e w'=>e=.returned (.bool r)∧Drawn0 w w':=by
 have hu52:=Tryz.underlying52;have HR0:=am hr0;have HC0:=am hc0;clear hr0 hc0;have HR1:=am hr1;have HC1:=am hc1;clear hr1 hc1;have H:(if (l0.length:Int)=(l1.length:Int) then (spec_A2SameLine.l0 k l0 l1 0) else (some false))=some r:=h;clear h
 by_cases c3:(l0.length:Int)=(l1.length:Int)
 ·rw [if_pos c3] at H;have c3b0:=beq_iff_eq.mpr c3;have c3b1:=bne_eq_false_iff_eq.mpr c3
  have c3b2:(l0.length == l1.length)=true:=by first|simpa using c3|(simp at c3 ⊢;omega)
  clear c3;have H':=am H;clear H
  go_enter Tryz.func18,Tryz.ntmps18
  go_wp2
  repeat (go_quiet (fail);try go_wp2)
  go_loopg [5] k (fun kq v5 w'=>∃ (x5_1:Int),v5=.int .i64 x5_1∧Aside0 (spec_A2SameLine.l0 kq l0 l1 x5_1=some r)∧Aside0 (kq≤k)∧Drawn0 w w')
  case atStart=>exact ⟨(0),zq3,H',⟨Nat.le_refl _⟩,by repeat (first|exact Drawn0.refl _|apply Drawn0.step)⟩
  case round =>
   clear H';(try clear c1);(try clear p2);(try clear c3);(try clear c3b0);(try clear c3b1);(try clear c3b2);obtain ⟨x5_1,rfl,HA,HK1,⟨m1,rfl⟩⟩:=hrel
   cases gk with
   | zero=>exact absurd HA.out (by simp [spec_A2SameLine.l0])
   | succ k1 =>
    have H:=HA.out;clear HA;simp only [spec_A2SameLine.l0] at H
    by_cases c4:x5_1 < (l0.length:Int)
    ·rw [if_pos c4] at H;have c4b0:=decide_eq_true c4;clear c4
     by_cases c5:0≤x5_1
     ·rw [if_pos c5] at H;have c5b0:=decide_eq_true c5;clear c5
      by_cases c6:x5_1 < (l1.length:Int)
      ·rw [if_pos c6] at H;have c6b0:=decide_eq_true c6;clear c6
       by_cases c7:(!(((rd_T52 l0 x5_1).f0) == ((rd_T52 l1 x5_1).f0)) || (!(((rd_T52 l0 x5_1).f1) == ((rd_T52 l1 x5_1).f1)) || (!(((rd_T52 l0 x5_1).f2) == ((rd_T52 l1 x5_1).f2)))))=true
       ·rw [if_pos c7] at H;have c7b0:(!(((rd_T52 l0 x5_1).f0) == ((rd_T52 l1 x5_1).f0)) || (!(((rd_T52 l0 x5_1).f1) == ((rd_T52 l1 x5_1).f1)) || (!(((rd_T52 l0 x5_1).f2) == ((rd_T52 l1 x5_1).f2)))))=true:=c7;clear c7;obtain rfl:=Option.some.inj H;have p101:0≤(x5_1:Int):=of_decide_eq_true zq2;have q101:x5_1 < (l0.length:Int):=of_decide_eq_true zq2;obtain ⟨ad101,e101,hx101_0,hx101_1,hx101_2⟩:=at_T52 HR0.out x5_1 p101 q101;cases e101;replace p101:=eq_true p101;replace q101:=eq_true q101;have p102:0≤(x5_1:Int):=of_decide_eq_true zq2;have q102:x5_1 < (l1.length:Int):=of_decide_eq_true zq2;obtain ⟨ad102,e102,hx102_0,hx102_1,hx102_2⟩:=at_T52 HR1.out x5_1 p102 q102;cases e102;replace p102:=eq_true p102;replace q102:=eq_true q102
        go_wp2
        repeat (go_quiet (fail);try go_wp2)
        go_ret
        exact ⟨by first|rfl|(simp only [IntKind.wrap_i64,wrap64];done)|(simp;done)|(simp [*];done),by repeat (first|exact Drawn0.refl _|apply Drawn0.step)⟩
       ·rw [if_neg c7] at H
        have c7b0:(!(((rd_T52 l0 x5_1).f0) == ((rd_T52 l1 x5_1).f0)) || (!(((rd_T52 l0 x5_1).f1) == ((rd_T52 l1 x5_1).f1)) || (!(((rd_T52 l0 x5_1).f2) == ((rd_T52 l1 x5_1).f2)))))=false:=by simpa using c7
        clear c7;have H':=am H;clear H;have p101:0≤(x5_1:Int):=of_decide_eq_true zq2;have q101:x5_1 < (l0.length:Int):=of_decide_eq_true zq2;obtain ⟨ad101,e101,hx101_0,hx101_1,hx101_2⟩:=at_T52 HR0.out x5_1 p101 q101;cases e101;replace p101:=eq_true p101;replace q101:=eq_true q101;have p102:0≤(x5_1:Int):=of_decide_eq_true zq2;have q102:x5_1 < (l1.length:Int):=of_decide_eq_true zq2;obtain ⟨ad102,e102,hx102_0,hx102_1,hx102_2⟩:=at_T52 HR1.out x5_1 p102 q102;cases e102;replace p102:=eq_true p102;replace q102:=eq_true q102
        go_wp2
        repeat (go_quiet (fail);try go_wp2)
        go_roundg k1
        case measure=>have:=HK1.out;omega
        case rel=>exact ⟨(wrap64 (x5_1 + 1)),zq3,H',⟨by have:=HK1.out;omega⟩,by repeat (first|exact Drawn0.refl _|apply Drawn0.step)⟩
      ·rw [if_neg c6] at H;exact absurd H (by simp)
     ·rw [if_neg c5] at H;exact absurd H (by simp)
    ·rw [if_neg c4] at H;have c4b0:=decide_eq_false c4;clear c4;obtain rfl:=Option.some.inj H
     go_wp2
     repeat (go_quiet (fail);try go_wp2)
     go_ret
     exact ⟨by first|rfl|(simp only [IntKind.wrap_i64,wrap64];done)|(simp;done)|(simp [*];done),by repeat (first|exact Drawn0.refl _|apply Drawn0.step)⟩
 ·rw [if_neg c3] at H;have c3b0:=beq_eq_false_iff_ne.mpr c3;have c3b1:=bne_iff_ne.mpr c3
  have c3b2:(l0.length == l1.length)=false:=by first|simpa using c3|(simp at c3 ⊢;omega)
  obtain rfl:=Option.some.inj H
  go_enter Tryz.func18,Tryz.ntmps18
  go_wp2
  repeat (go_quiet (fail);try go_wp2)
  go_ret
  exact ⟨by first|rfl|(simp only [IntKind.wrap_i64,wrap64];done)|(simp;done)|(simp [*];done),by repeat (first|exact Drawn0.refl _|apply Drawn0.step)⟩
end Go.Proofs.YtcoepebmmgcplabGreatDoor.G
end
