/- The law's functions, their contracts, and the plain lemmas: texts of this claim, laid together. -/
import Derived.Shelf.Strings.BuilderK
import Derived.Maps.OwnOps
import Derived.Maps.OwnSet
import Derived.Maps.Views
import Derived.IntWalk
import Derived.Maps.RangeWalk
import Derived.RangeFuncNested
import Derived.RangeFuncBound
import Derived.RangeFuncCalls
import Derived.RangeFuncLeaves
import Derived.OrdersIn
import Derived.OwnWalkIn
import Derived.TacticsInMore
import Derived.LoopIn
import Derived.Sort.LoopGhostIn
import Derived.RegionIn
import Derived.BigRegionIn
import Derived.Lib.SplitLaws
import Derived.Test.YtmcfbnglocojkabGreatDoorMFnNoted0
section
namespace Go.Proofs.YtmcfbnglocojkabGreatDoor.G
open Go.RowKit Go.Proofs.YtmcfbnglocojkabGreatDoorW.PrintWords Go.Proofs.YtmcfbnglocojkabGreatDoorW.PrintLast Go.Proofs.YtmcfbnglocojkabGreatDoorW.PrintMore
attribute [local go_sem] max2_int min2_int max_two min_two max_three min_three max_four min_four
set_option linter.unusedVariables false
set_option linter.unusedSimpArgs false
def impl_LogText.line (x:S41):Option ByteArray:=(impl_decimal.f x.f0).bind fun t1=>(impl_decimal.f x.f1).bind fun t2=>some (((t1 ++ (if x.f2=true then (⟨#[32,100,111,119,110,32]⟩:ByteArray) else ⟨#[32,117,112,32]⟩)) ++ t2) ++ (⟨#[10]⟩:ByteArray))
def impl_LogText.l0:List (S41)→ByteArray→Option ByteArray
 | [],acc=>some acc
 | x :: r,acc=>(impl_LogText.line x).bind fun s=>if acc.size + s.size≤140737488355328 then impl_LogText.l0 r (acc ++ s) else none
def impl_LogText.f (l0:List (S41)):Option ByteArray:=(impl_ValidLog.f l0).bind fun v=>if v=true then impl_LogText.l0 l0 ⟨#[]⟩ else some ⟨#[]⟩
theorem impl_LogText.kept {T e:TypeId} {B b:Nat} {l:List Value} {w w':World} (h:Lib.IsBuilderF T e B b l w) (hb:Below w.heap.size w w'):Lib.IsBuilderF T e B b l w':=by
 have one:∀ p:Value,Lib.BuilderAtF T e B b p l w→Lib.BuilderAtF T e B b p l w':=by
  rintro p ⟨hB,v,h1,h2,h3⟩
  refine ⟨hB,v,blk_below h1 hb,?_,h3⟩;obtain ⟨g1,g2|⟨g,cap,cur,fz,e1,e2,e3,e4⟩⟩:=h2
  ·exact ⟨g1,.inl g2⟩
  ·exact ⟨g1,.inr ⟨g,cap,cur,fz,e1,e2,blk_below e3 hb,e4⟩⟩
 exact h.elim (fun x=>.inl (one _ x)) (fun x=>.inr (one _ x))
theorem impl_LogText.lt {T e:TypeId} {B b:Nat} {l:List Value} {w:World} (h:Lib.IsBuilderF T e B b l w):b < w.heap.size:=h.elim (fun x=>x.lt) (fun x=>x.lt)
theorem impl_LogText.cells (a s:ByteArray):Lib.byteCells a.data.toList ++ Lib.strCells s=Lib.byteCells (a ++ s).data.toList:=by
 simp [Lib.byteCells,Lib.strCells]
theorem impl_LogText.new {T e:TypeId} {B b:Nat} {w:World} (hB:B≤b) (h:w.heap[b]?=some (.cells #[.pointer none,.slice none 0 0] T (0,0))):Lib.IsBuilderF T e B b (Lib.byteCells (⟨#[]⟩:ByteArray).data.toList) w :=
 .inl ⟨hB,.slice none 0 0,h,Go.World.ownsRowF_nil w B e 1,by simp [Value.ownBlock]⟩
theorem impl_LogText.drop {l:List (S41)} {i:Nat} (h:i < l.length) (acc:ByteArray):impl_LogText.l0 (l.drop i) acc=(impl_LogText.line (rd_T41 l (i:Int))).bind fun s=>if acc.size + s.size≤140737488355328 then impl_LogText.l0 (l.drop (i + 1)) (acc ++ s) else none:=by
 have e:rd_T41 l (i:Int)=l[i]:=by
  show l.getD i _=l[i]
  rw [List.getD_eq_getElem?_getD,List.getElem?_eq_getElem h];rfl
 rw [e,List.drop_eq_getElem_cons h];rfl
def impl_LogText.T10:Bool × List (List Nat × List Nat):=(true,[([],[]),([0],[0]),([1],[1]),([],[]),([2,3],[2,3]),([],[]),([5],[5]),([6,2],[6]),([4,7],[4,7]),([8],[8]),([9,7],[9])])
def impl_LogText.B10:List Nat:=[0,1,3,0,15,0,32,103,255,511,1023]
theorem impl_LogText.tab10:rtab .any (opsOf Tryz.f7 10)=impl_LogText.T10:=by kernel_rfl
theorem impl_LogText.bits10:waitsOk impl_LogText.T10.2 impl_LogText.B10=true:=by kernel_rfl
set_option maxHeartbeats 8000000 in
set_option maxRecDepth 100000 in
theorem impl_LogText.calls (A0:Option Addr) (c0:Nat) (l0:List (S41)) (r:ByteArray) (w:World) (hr0:Kd.C k41 w A0 l0.length l0) (hc0:l0.length≤c0) (henv:Env w) (h:impl_LogText.f l0=some r) :
  Calls Tryz.prog 7 #[.slice A0 l0.length c0] w fun e w'=>e=.returned (.string r)∧Below w.heap.size w w':=by
 have hu:=Tryz.underlying41;have HR0:=am hr0;have HC0:=am hc0;have HENV:=am henv;have HB:=am (Below.refl w.heap.size w)
 unfold impl_LogText.f at h
 obtain ⟨v,A20,H⟩:=Option.bind_eq_some_iff.mp h;have A2:=am A20;clear hr0 hc0 henv h A20
 cases v with
 | false =>
  have H1:(some (⟨#[]⟩:ByteArray))=some r:=by rw [if_neg (by decide)] at H;exact H
  clear H;obtain rfl:=Option.some.inj H1;clear H1
  go_enter Tryz.func7,Tryz.ntmps7
  go_wp2_with (first|((with_reducible refine gate_callee (f:=16) rfl ?_);refine goesL_ (some 8) rfl rfl Tryz.func16 zq18 rfl #[.slice A0 l0.length c0] rfl zq52 ?_;(with_reducible refine (impl_ValidLog.calls _ _ l0 false _ ?side1 ?side2 A2.out).mono ?_);(case side1=>exact zq6);(case side2=>exact HC0.out);rintro e w4 ⟨rfl,hb⟩;refine ⟨_,rfl,?_⟩;have n0_:=am (below_step zq0 hb);clear HB;have HB:=n0_;clear n0_ hb))
  go_ret
  exact ⟨rfl,by repeat (first|(with_reducible first|exact HB.out|apply below_alloc|apply pw_below_drewN|apply below_drew1)|exact HB.out)⟩
 | true =>
  rw [if_pos rfl] at H;have H':=am H;clear H
  go_enter Tryz.func7,Tryz.ntmps7
  go_wp2_with (first|((with_reducible refine gate_callee (f:=16) rfl ?_);refine goesL_ (some 8) rfl rfl Tryz.func16 zq18 rfl #[.slice A0 l0.length c0] rfl zq52 ?_;(with_reducible refine (impl_ValidLog.calls _ _ l0 true _ ?side1 ?side2 A2.out).mono ?_);(case side1=>exact zq6);(case side2=>exact HC0.out);rintro e w4 ⟨rfl,hb⟩;refine ⟨_,rfl,?_⟩;have n0_:=am (below_step zq0 hb);clear HB;have HB:=n0_;clear n0_ hb)|((with_reducible refine gate_dst (N:=3) rfl ?_);refine box_event ?hg (N:=3) ?hd (cs:=#[.pointer none,.slice none 0 0]) (t:=59) ?hr ?_;(case hd=>rfl);(case hg=>rfl);(case hr=>exact zq9);intro gb hg w5 hbox hb;have n0_:=am (below_step zq0 hb);have n1_:=am hbox;have n2_:=am ((by rw [hg];exact (below_size zq0)):w.heap.size≤gb);clear HB;have HB:=n0_;have BK:=n1_;have GB:=n2_;clear n0_ n1_ n2_ hb hbox hg;have hcz0:w5.cell? ⟨gb,0,none⟩=some (.pointer none):=(blk_cell BK.out 0).trans rfl;have hcz1:w5.cell? ⟨gb,1,none⟩=some (.slice none 0 0):=(blk_cell BK.out 1).trans rfl;have hfz0:=blk_frozen BK.out 0;have hfz1:=blk_frozen BK.out 1))
  have n0_:Aside0 (Lib.IsBuilderF 59 5 w.heap.size gb (Lib.byteCells (⟨#[]⟩:ByteArray).data.toList) ((w5.setCell ⟨gb,0,none⟩ (.pointer none)).setCell ⟨gb,1,none⟩ (.slice none 0 0))):=⟨impl_LogText.new GB.out (blk_put (blk_put BK.out 0 _ rfl) 1 _ rfl)⟩;have n1_:Aside0 (Below w.heap.size w ((w5.setCell ⟨gb,0,none⟩ (.pointer none)).setCell ⟨gb,1,none⟩ (.slice none 0 0))):=⟨below_set (below_set HB.out GB.out) GB.out⟩;generalize ((w5.setCell ⟨gb,0,none⟩ (.pointer none)).setCell ⟨gb,1,none⟩ (.slice none 0 0))=w6 at n0_ n1_ ⊢;clear HB BK hcz0 hcz1 hfz0 hfz1;have HB:=n1_;have HU:=n0_;clear n0_ n1_;have hmax:l0.length≤9223372036854775807:=HR0.out.2.1
  go_loopg [13] l0.length (fun gg v13 wr=>∃ (z:Int) (acc:ByteArray),v13=.int .i64 z∧Aside0 (0≤z∧z≤(l0.length:Int)∧(l0.length:Int) - z≤(gg:Int))∧Aside0 (impl_LogText.l0 (l0.drop z.toNat) acc=some r)∧Aside0 (Lib.IsBuilderF 59 5 w.heap.size gb (Lib.byteCells acc.data.toList) wr)∧Aside0 (Below w.heap.size w wr))
  case atStart=>exact ⟨0,⟨#[]⟩,rfl,⟨by omega,by omega,by omega⟩,H',HU,HB⟩
  case round =>
   clear H' HU HB;obtain ⟨z,acc,rfl,HZ,HA,HU,HB⟩:=hrel;obtain ⟨z0,z1,z2⟩:=HZ.out;clear HZ
   by_cases c7:z < (l0.length:Int)
   ·have c7b0:=decide_eq_true c7;have H:=HA.out;clear HA
    have hz:((z.toNat:Nat):Int)=z:=by omega
    rw [impl_LogText.drop (by omega),hz] at H;obtain ⟨ad,e1,hx0,hx1,hx2⟩:=at_T41 HR0.out z z0 c7;cases e1;replace hx0:=(HB.out.cell (World.block_lt_of_cell? w _ hx0)).trans hx0;replace hx1:=(HB.out.cell (World.block_lt_of_cell? w _ hx1)).trans hx1;replace hx2:=(HB.out.cell (World.block_lt_of_cell? w _ hx2)).trans hx2;generalize rd_T41 l0 z=x at *;obtain ⟨s,A30,H9⟩:=Option.bind_eq_some_iff.mp H;clear H;have H:=H9;clear H9
    have hlim:acc.size + s.size≤140737488355328:=by
     by_cases q:acc.size + s.size≤140737488355328
     ·exact q
     ·rw [if_neg q] at H;cases H
    rw [if_pos hlim] at H;have H':=am H;clear H
    unfold impl_LogText.line at A30
    obtain ⟨t1,A41,A31⟩:=Option.bind_eq_some_iff.mp A30;obtain ⟨t2,A51,A3⟩:=Option.bind_eq_some_iff.mp A31;clear A30 A31;have A4:=am A41;have A5:=am A51;clear A41 A51;have HR:=am (Below.refl wr.heap.size wr);have HS:=am (below_size HB.out);have p0:=eq_true z0;have q0:=eq_true c7;have HZ0:=am z0;have HZ1:=am z1;have HZ2:=am z2;have HZ3:=am c7;have HM:=am hmax;clear z0 z1 z2 hz hmax c7
    cases hq:x.f2 with
    | true =>
     rw [hq] at hx2 A3;simp only [Bool.false_eq_true,if_true,if_false] at A3;replace A3:=Option.some.inj A3
     have hs:t1.size + 6 + t2.size + 1=s.size:=by rw [← A3];simp only [ByteArray.size_append'];rfl
     have HSZ:=am hs;have HL:=am hlim;have A3':=am A3;clear A3 hs hlim
     go_wp2_with (first|((with_reducible refine gate_dst (N:=5) rfl ?_);refine box_event ?hg (N:=5) ?hd (cs:=#[.int .i64 0,.int .i64 0,.bool false]) (t:=41) ?hr ?_;(case hd=>rfl);(case hg=>rfl);(case hr=>exact zq9);intro ge hg w18 hbox hb;have n1_:=am (below_step zq32 hb);have n2_:=am hbox;have n3_:=am ((by rw [hg];exact (below_size zq32)):wr.heap.size≤ge);clear HR;have HR:=n1_;have BK:=n2_;have GE:=n3_;clear n1_ n2_ n3_;clear hb hbox hg;have hcz19_0:w18.cell? ⟨ge,0,none⟩=some (.int .i64 0):=(blk_cell BK.out 0).trans rfl;have hcz19_1:w18.cell? ⟨ge,1,none⟩=some (.int .i64 0):=(blk_cell BK.out 1).trans rfl;have hcz19_2:w18.cell? ⟨ge,2,none⟩=some (.bool false):=(blk_cell BK.out 2).trans rfl;have hfz19_0:=blk_frozen BK.out 0;have hfz19_1:=blk_frozen BK.out 1;have hfz19_2:=blk_frozen BK.out 2))
     have n0_:Aside0 ((((w18.setCell ⟨ge,0,none⟩ (.int .i64 x.f0)).setCell ⟨ge,1,none⟩ (.int .i64 x.f1)).setCell ⟨ge,2,none⟩ (.bool true)).heap[ge]?=some (.cells #[.int .i64 x.f0,.int .i64 x.f1,.bool true] 41 (0,0))):=⟨blk_put (cs:=#[.int .i64 x.f0,.int .i64 x.f1,.bool false]) (blk_put (cs:=#[.int .i64 x.f0,.int .i64 0,.bool false]) (blk_put (cs:=#[.int .i64 0,.int .i64 0,.bool false]) BK.out 0 _ rfl) 1 _ rfl) 2 _ rfl⟩;have n1_:Aside0 (Below wr.heap.size wr (((w18.setCell ⟨ge,0,none⟩ (.int .i64 x.f0)).setCell ⟨ge,1,none⟩ (.int .i64 x.f1)).setCell ⟨ge,2,none⟩ (.bool true))):=⟨below_set (below_set (below_set HR.out GE.out) GE.out) GE.out⟩;clear hcz19_0 hcz19_1 hcz19_2 hfz19_0 hfz19_1 hfz19_2 BK HR;generalize (((w18.setCell ⟨ge,0,none⟩ (.int .i64 x.f0)).setCell ⟨ge,1,none⟩ (.int .i64 x.f1)).setCell ⟨ge,2,none⟩ (.bool true))=w20 at n0_ n1_ ⊢;have HR:=am (below_drew1 n1_.out);have BK:=am (blk_drew n0_.out);clear n0_ n1_
     have hL1:t1.size + 6≤9223372036854775807:=by have:=HSZ.out;have:=HL.out;omega
     have hL2:t1.size + 6 + t2.size≤9223372036854775807:=by have:=HSZ.out;have:=HL.out;omega
     have hL3:t1.size + 6 + t2.size + 1≤9223372036854775807:=by have:=HSZ.out;have:=HL.out;omega
     have hL1b:=eq_true hL1;have hL1d:=eq_false (Nat.not_lt.2 hL1);have hL2b:=eq_true hL2;have hL2d:=eq_false (Nat.not_lt.2 hL2);have hL3b:=eq_true hL3;have hL3d:=eq_false (Nat.not_lt.2 hL3);have hL1c:decide (t1.size + 6≤9223372036854775807)=true:=decide_eq_true hL1;have hL2c:decide (t1.size + 6 + t2.size≤9223372036854775807)=true:=decide_eq_true hL2;have hL3c:decide (t1.size + 6 + t2.size + 1≤9223372036854775807)=true:=decide_eq_true hL3;clear hL1 hL2 hL3;refine start_ (n:=11) (S:=fun w'=>w'.cell? ⟨ge,0,none⟩=some (.int .i64 x.f0)∧w'.cell? ⟨ge,1,none⟩=some (.int .i64 x.f1)) (ds:=[]) #[false,false,false,false,false,false,false,false,false,false,false] zq18 rfl rfl ⟨(blk_cell BK.out 0).trans rfl,(blk_cell BK.out 1).trans rfl⟩ (fun hHeld=>?_);refine with_tabW impl_LogText.tab10 impl_LogText.bits10 (fun HT_ HW_=>?_);generalize w20.drew=w21 at HR BK hHeld ⊢;refine pw_ 0 19 ?_;refine tw2_ 1 20 ?_;refine pw_ 3 22 ?_;refine pw_ 5 24 ?_;refine tw2_ 6 25 ?_;refine ow_ 2 21 (fun K hK=>?_);refine goes_ Tryz.func29 zq18 rfl #[.int .i64 (x.f0)] (by rfl) rfl rfl zq52 ?_
     with_reducible refine (impl_decimal.calls (x.f0) t1 _ ?side1 A4.out).mono ?_
     (case side1=>exact Env_on HENV.out (below_step HB.out HR.out))
     rintro e w22 ⟨rfl,hb⟩
     refine ⟨_,rfl,?_⟩;have n1_:=am (blk_below BK.out hb);have n2_:=am (below_step HR.out hb);clear BK HR;have BK:=n1_;have HR:=n2_;clear n1_ n2_ hb;refine hK.out _ _ ⟨(blk_cell BK.out 0).trans rfl,(blk_cell BK.out 1).trans rfl⟩ (fun hHeld=>?_);clear hK K;refine norm_ (a':=?_) ?_ ?_;rotate_left
     ·show Act.put _ (some 21) _=_
      simp only [Act.put,List.setIfInBounds_toArray,List.set_cons_zero,List.set_cons_succ,i64_w,i32_w];rfl
     refine pw_ 4 23 ?_;refine ow_ 7 26 (fun K hK=>?_);refine goes_ Tryz.func29 zq18 rfl #[.int .i64 (x.f1)] (by rfl) rfl rfl zq52 ?_
     with_reducible refine (impl_decimal.calls (x.f1) t2 _ ?side1 A5.out).mono ?_
     (case side1=>exact Env_on HENV.out (below_step HB.out HR.out))
     rintro e w23 ⟨rfl,hb⟩
     refine ⟨_,rfl,?_⟩;have n1_:=am (blk_below BK.out hb);have n2_:=am (below_step HR.out hb);clear BK HR;have BK:=n1_;have HR:=n2_;clear n1_ n2_ hb;refine hK.out _ _ ⟨(blk_cell BK.out 0).trans rfl,(blk_cell BK.out 1).trans rfl⟩ (fun hHeld=>?_);clear hK K;refine norm_ (a':=?_) ?_ ?_;rotate_left
     ·show Act.put _ (some 26) _=_
      simp only [Act.put,List.setIfInBounds_toArray,List.set_cons_zero,List.set_cons_succ,i64_w,i32_w];rfl
     refine pw_ 8 27 ?_;refine pw_ 9 28 ?_;refine ow_ 10 29 (fun K hK=>?_);refine goes_ Tryz.func28 zq18 rfl #[.pointer (some ⟨gb,0,none⟩),.string s] (by rfl) rfl rfl (by rw [← A3'.out];(try simp only [List.map_toArray,List.map_cons,List.map_nil]);first|done|rfl) ?_;refine (Tryz.Builder_WriteString_k w.heap.size gb _ s _ (impl_LogText.kept HU.out HR.out) (by rw [Lib.byteCells_length];exact HL.out) (Nat.le_trans HS.out (below_size HR.out))).mono ?_
     rintro e w25 ⟨rfl,hbu,hb,hoth⟩
     refine ⟨_,rfl,?_⟩;have n0_:Aside0 (Lib.IsBuilderF 59 5 w.heap.size gb (Lib.byteCells (acc ++ s).data.toList) w25):=⟨by rw [← impl_LogText.cells];exact .inr hbu⟩;have n1_:=am (hoth ge _ BK.out (by intro h_;injection h_ with h_;have h1:=impl_LogText.lt HU.out;have:=GE.out;omega) (by intro c fz h_;injection h_ with _ h_;exact absurd h_ (by decide)));have n2_:=am (((below_step HB.out HR.out)).trans hb);clear BK HR HU HB;have BK:=n1_;have HB:=n2_;have HU:=n0_;clear n0_ n1_ n2_ hbu hb hoth;refine hK.out _ _ ⟨(blk_cell BK.out 0).trans rfl,(blk_cell BK.out 1).trans rfl⟩ (fun hHeld=>?_);clear hK K;refine norm_ (a':=?_) ?_ ?_;rotate_left
     ·show Act.put _ (some 29) _=_
      simp only [Act.put,List.setIfInBounds_toArray,List.set_cons_zero,List.set_cons_succ,i64_w,i32_w];rfl
     refine done_ (done_of HT_.out zq18) ?_;(try go_wp2)
     have hwz:wrap64 (z + 1)=z + 1:=by have:=HZ0.out;have:=HZ3.out;have:=HM.out;unfold wrap64;omega
     go_roundg (gk - 1)
     case measure=>have:=HZ2.out;have:=HZ3.out;omega
     case rel=>exact ⟨wrap64 (z + 1),acc ++ s,zq2,⟨by rw [hwz];have:=HZ0.out;have:=HZ2.out;have:=HZ3.out;refine ⟨by omega,by omega,by omega⟩⟩,⟨by rw [hwz,show (z + 1).toNat=z.toNat + 1 by have:=HZ0.out;omega];exact H'.out⟩,HU,HB⟩
    | false =>
     rw [hq] at hx2 A3;simp only [Bool.false_eq_true,if_true,if_false] at A3;replace A3:=Option.some.inj A3
     have hs:t1.size + 4 + t2.size + 1=s.size:=by rw [← A3];simp only [ByteArray.size_append'];rfl
     have HSZ:=am hs;have HL:=am hlim;have A3':=am A3;clear A3 hs hlim
     go_wp2_with (first|((with_reducible refine gate_dst (N:=5) rfl ?_);refine box_event ?hg (N:=5) ?hd (cs:=#[.int .i64 0,.int .i64 0,.bool false]) (t:=41) ?hr ?_;(case hd=>rfl);(case hg=>rfl);(case hr=>exact zq9);intro ge hg w18 hbox hb;have n1_:=am (below_step zq32 hb);have n2_:=am hbox;have n3_:=am ((by rw [hg];exact (below_size zq32)):wr.heap.size≤ge);clear HR;have HR:=n1_;have BK:=n2_;have GE:=n3_;clear n1_ n2_ n3_;clear hb hbox hg;have hcz19_0:w18.cell? ⟨ge,0,none⟩=some (.int .i64 0):=(blk_cell BK.out 0).trans rfl;have hcz19_1:w18.cell? ⟨ge,1,none⟩=some (.int .i64 0):=(blk_cell BK.out 1).trans rfl;have hcz19_2:w18.cell? ⟨ge,2,none⟩=some (.bool false):=(blk_cell BK.out 2).trans rfl;have hfz19_0:=blk_frozen BK.out 0;have hfz19_1:=blk_frozen BK.out 1;have hfz19_2:=blk_frozen BK.out 2))
     have n0_:Aside0 ((((w18.setCell ⟨ge,0,none⟩ (.int .i64 x.f0)).setCell ⟨ge,1,none⟩ (.int .i64 x.f1)).setCell ⟨ge,2,none⟩ (.bool false)).heap[ge]?=some (.cells #[.int .i64 x.f0,.int .i64 x.f1,.bool false] 41 (0,0))):=⟨blk_put (cs:=#[.int .i64 x.f0,.int .i64 x.f1,.bool false]) (blk_put (cs:=#[.int .i64 x.f0,.int .i64 0,.bool false]) (blk_put (cs:=#[.int .i64 0,.int .i64 0,.bool false]) BK.out 0 _ rfl) 1 _ rfl) 2 _ rfl⟩;have n1_:Aside0 (Below wr.heap.size wr (((w18.setCell ⟨ge,0,none⟩ (.int .i64 x.f0)).setCell ⟨ge,1,none⟩ (.int .i64 x.f1)).setCell ⟨ge,2,none⟩ (.bool false))):=⟨below_set (below_set (below_set HR.out GE.out) GE.out) GE.out⟩;clear hcz19_0 hcz19_1 hcz19_2 hfz19_0 hfz19_1 hfz19_2 BK HR;generalize (((w18.setCell ⟨ge,0,none⟩ (.int .i64 x.f0)).setCell ⟨ge,1,none⟩ (.int .i64 x.f1)).setCell ⟨ge,2,none⟩ (.bool false))=w20 at n0_ n1_ ⊢;have HR:=am (below_drew1 n1_.out);have BK:=am (blk_drew n0_.out);clear n0_ n1_
     have hL1:t1.size + 4≤9223372036854775807:=by have:=HSZ.out;have:=HL.out;omega
     have hL2:t1.size + 4 + t2.size≤9223372036854775807:=by have:=HSZ.out;have:=HL.out;omega
     have hL3:t1.size + 4 + t2.size + 1≤9223372036854775807:=by have:=HSZ.out;have:=HL.out;omega
     have hL1b:=eq_true hL1;have hL1d:=eq_false (Nat.not_lt.2 hL1);have hL2b:=eq_true hL2;have hL2d:=eq_false (Nat.not_lt.2 hL2);have hL3b:=eq_true hL3;have hL3d:=eq_false (Nat.not_lt.2 hL3);have hL1c:decide (t1.size + 4≤9223372036854775807)=true:=decide_eq_true hL1;have hL2c:decide (t1.size + 4 + t2.size≤9223372036854775807)=true:=decide_eq_true hL2;have hL3c:decide (t1.size + 4 + t2.size + 1≤9223372036854775807)=true:=decide_eq_true hL3;clear hL1 hL2 hL3;refine start_ (n:=11) (S:=fun w'=>w'.cell? ⟨ge,0,none⟩=some (.int .i64 x.f0)∧w'.cell? ⟨ge,1,none⟩=some (.int .i64 x.f1)) (ds:=[]) #[false,false,false,false,false,false,false,false,false,false,false] zq18 rfl rfl ⟨(blk_cell BK.out 0).trans rfl,(blk_cell BK.out 1).trans rfl⟩ (fun hHeld=>?_);refine with_tabW impl_LogText.tab10 impl_LogText.bits10 (fun HT_ HW_=>?_);generalize w20.drew=w21 at HR BK hHeld ⊢;refine pw_ 0 19 ?_;refine tw2_ 1 20 ?_;refine pw_ 3 22 ?_;refine pw_ 5 24 ?_;refine tw2_ 6 25 ?_;refine ow_ 2 21 (fun K hK=>?_);refine goes_ Tryz.func29 zq18 rfl #[.int .i64 (x.f0)] (by rfl) rfl rfl zq52 ?_
     with_reducible refine (impl_decimal.calls (x.f0) t1 _ ?side1 A4.out).mono ?_
     (case side1=>exact Env_on HENV.out (below_step HB.out HR.out))
     rintro e w22 ⟨rfl,hb⟩
     refine ⟨_,rfl,?_⟩;have n1_:=am (blk_below BK.out hb);have n2_:=am (below_step HR.out hb);clear BK HR;have BK:=n1_;have HR:=n2_;clear n1_ n2_ hb;refine hK.out _ _ ⟨(blk_cell BK.out 0).trans rfl,(blk_cell BK.out 1).trans rfl⟩ (fun hHeld=>?_);clear hK K;refine norm_ (a':=?_) ?_ ?_;rotate_left
     ·show Act.put _ (some 21) _=_
      simp only [Act.put,List.setIfInBounds_toArray,List.set_cons_zero,List.set_cons_succ,i64_w,i32_w];rfl
     refine pw_ 4 23 ?_;refine ow_ 7 26 (fun K hK=>?_);refine goes_ Tryz.func29 zq18 rfl #[.int .i64 (x.f1)] (by rfl) rfl rfl zq52 ?_
     with_reducible refine (impl_decimal.calls (x.f1) t2 _ ?side1 A5.out).mono ?_
     (case side1=>exact Env_on HENV.out (below_step HB.out HR.out))
     rintro e w23 ⟨rfl,hb⟩
     refine ⟨_,rfl,?_⟩;have n1_:=am (blk_below BK.out hb);have n2_:=am (below_step HR.out hb);clear BK HR;have BK:=n1_;have HR:=n2_;clear n1_ n2_ hb;refine hK.out _ _ ⟨(blk_cell BK.out 0).trans rfl,(blk_cell BK.out 1).trans rfl⟩ (fun hHeld=>?_);clear hK K;refine norm_ (a':=?_) ?_ ?_;rotate_left
     ·show Act.put _ (some 26) _=_
      simp only [Act.put,List.setIfInBounds_toArray,List.set_cons_zero,List.set_cons_succ,i64_w,i32_w];rfl
     refine pw_ 8 27 ?_;refine pw_ 9 28 ?_;refine ow_ 10 29 (fun K hK=>?_);refine goes_ Tryz.func28 zq18 rfl #[.pointer (some ⟨gb,0,none⟩),.string s] (by rfl) rfl rfl (by rw [← A3'.out];(try simp only [List.map_toArray,List.map_cons,List.map_nil]);first|done|rfl) ?_;refine (Tryz.Builder_WriteString_k w.heap.size gb _ s _ (impl_LogText.kept HU.out HR.out) (by rw [Lib.byteCells_length];exact HL.out) (Nat.le_trans HS.out (below_size HR.out))).mono ?_
     rintro e w25 ⟨rfl,hbu,hb,hoth⟩
     refine ⟨_,rfl,?_⟩;have n0_:Aside0 (Lib.IsBuilderF 59 5 w.heap.size gb (Lib.byteCells (acc ++ s).data.toList) w25):=⟨by rw [← impl_LogText.cells];exact .inr hbu⟩;have n1_:=am (hoth ge _ BK.out (by intro h_;injection h_ with h_;have h1:=impl_LogText.lt HU.out;have:=GE.out;omega) (by intro c fz h_;injection h_ with _ h_;exact absurd h_ (by decide)));have n2_:=am (((below_step HB.out HR.out)).trans hb);clear BK HR HU HB;have BK:=n1_;have HB:=n2_;have HU:=n0_;clear n0_ n1_ n2_ hbu hb hoth;refine hK.out _ _ ⟨(blk_cell BK.out 0).trans rfl,(blk_cell BK.out 1).trans rfl⟩ (fun hHeld=>?_);clear hK K;refine norm_ (a':=?_) ?_ ?_;rotate_left
     ·show Act.put _ (some 29) _=_
      simp only [Act.put,List.setIfInBounds_toArray,List.set_cons_zero,List.set_cons_succ,i64_w,i32_w];rfl
     refine done_ (done_of HT_.out zq18) ?_;(try go_wp2)
     have hwz:wrap64 (z + 1)=z + 1:=by have:=HZ0.out;have:=HZ3.out;have:=HM.out;unfold wrap64;omega
     go_roundg (gk - 1)
     case measure=>have:=HZ2.out;have:=HZ3.out;omega
     case rel=>exact ⟨wrap64 (z + 1),acc ++ s,zq2,⟨by rw [hwz];have:=HZ0.out;have:=HZ2.out;have:=HZ3.out;refine ⟨by omega,by omega,by omega⟩⟩,⟨by rw [hwz,show (z + 1).toNat=z.toNat + 1 by have:=HZ0.out;omega];exact H'.out⟩,HU,HB⟩
   ·have c7b0:=decide_eq_false c7;have H:=HA.out;clear HA;rw [List.drop_eq_nil_of_le (by omega)] at H;obtain rfl:=Option.some.inj H;clear H
    go_wp2_with (first|((with_reducible refine gate_callee (f:=30) rfl ?_);refine goesL_ (some 31) rfl rfl Tryz.func30 zq18 rfl #[.pointer (some ⟨gb,0,none⟩)] rfl zq52 ?_;(refine (Tryz.Builder_String_any_k w.heap.size gb acc.data.toList _ (impl_LogText.kept HU.out (by repeat (first|exact Below.refl _ _|apply below_alloc|apply pw_below_drewN|apply below_drew1))) (below_size zq0)).mono ?_);rintro e w28 ⟨rfl,_,hb,_⟩;refine ⟨_,rfl,?_⟩;have n0_:=am ((show Below w.heap.size w _ from zq0).trans hb);clear HB;have HB:=n0_;clear n0_ hb))
    go_ret
    exact ⟨by simp,by repeat (first|(with_reducible first|exact HB.out|apply below_alloc|apply pw_below_drewN|apply below_drew1)|exact HB.out)⟩
theorem impl_LongestUp.zeroE (w:World):(zeroValue 3).run Tryz.prog w=.ok (.int .i64 0) w:=by kernel_rfl
def impl_LongestUp.inb (x:S41):Bool:=decide (0≤x.f0) && decide (x.f0≤100000) && (decide (0≤x.f1) && decide (x.f1≤9999))
def impl_LongestUp.last (l:List (S41)) (s:Int):Nat→Int
 | 0=>0
 | n + 1=>if (rd_T41 l (n:Int)).f2=false∧(rd_T41 l (n:Int)).f1=s then (n:Int) else impl_LongestUp.last l s n
theorem impl_LongestUp.last_in (l:List (S41)) (s:Int) (n:Nat):0≤impl_LongestUp.last l s n∧(impl_LongestUp.last l s n < (n:Int)∨impl_LongestUp.last l s n=0):=by
 induction n with
 | zero=>exact ⟨Int.le_refl _,.inr rfl⟩
 | succ n ih =>
  rw [impl_LongestUp.last]
  split
  ·omega
  ·omega
def impl_LongestUp.step (l:List (S41)) (n:Nat) (p:Int × Int):Int × Int :=
 if (rd_T41 l (n:Int)).f2=true then
  (if p.2 < (rd_T41 l (n:Int)).f0 - (rd_T41 l (impl_LongestUp.last l (rd_T41 l (n:Int)).f1 n)).f0 then (impl_LongestUp.last l (rd_T41 l (n:Int)).f1 n,(rd_T41 l (n:Int)).f0 - (rd_T41 l (impl_LongestUp.last l (rd_T41 l (n:Int)).f1 n)).f0) else p)
 else p
def impl_LongestUp.to (l:List (S41)):Nat→Int × Int
 | 0=>(0,-1)
 | n + 1=>impl_LongestUp.step l n (impl_LongestUp.to l n)
def impl_LongestUp.f (l0:List (S41)):Option (Int × Int × Int) :=
 (impl_ValidLog.f l0).bind fun v=>if v=false then some (0,0,1) else if l0.length≤60∧l0.all impl_LongestUp.inb=true then some (if (impl_LongestUp.to l0 l0.length).2 < 0 then (0,0,6) else ((impl_LongestUp.to l0 l0.length).1,(impl_LongestUp.to l0 l0.length).2,0)) else none
theorem impl_LongestUp.inb_at {l:List (S41)} (h:l.all impl_LongestUp.inb=true) {i:Int} (h0:0≤i) (hi:i < (l.length:Int)):0≤(rd_T41 l i).f0∧(rd_T41 l i).f0≤100000∧0≤(rd_T41 l i).f1∧(rd_T41 l i).f1≤9999:=by
 have hm:rd_T41 l i∈l:=by
  obtain ⟨j,rfl⟩:∃ j:Nat,i=(j:Int):=⟨i.toNat,by omega⟩
  have hj:j < l.length:=by omega
  have:rd_T41 l (j:Int)=l[j]:=by simp [rd_T41,List.getD_eq_getElem?_getD,List.getElem?_eq_getElem hj]
  rw [this];exact List.getElem_mem hj
 have:=List.all_eq_true.1 h _ hm;simp only [impl_LongestUp.inb,Bool.and_eq_true,decide_eq_true_eq] at this
 omega
theorem impl_LongestUp.wf {n:Int} (h0:0≤n) (h1:n≤1000000):(Lit.int .i64 n).wf=true:=by
 simp [Lit.wf,IntKind.min,IntKind.max,IntKind.signed,IntKind.bits]
 omega
def impl_LongestUp.MapAt (l:List (S41)) (n B:Nat) (W:World):Prop:=∃ D:DataW Unit,W.ownsMap Tryz.prog 2 (plainElem Tryz.prog 3) B n D∧∀ s:Int,D.atKey (.int .i64 s) (.lit (.int .i64 0))=.lit (.int .i64 (impl_LongestUp.last l s n))
theorem impl_LongestUp.MapAt.kept {l:List (S41)} {n B:Nat} {W W1:World} (h:impl_LongestUp.MapAt l n B W) (hb:Below W.heap.size W W1):impl_LongestUp.MapAt l n B W1:=by
 obtain ⟨D,h1,h2⟩:=h;exact ⟨D,h1.kept (grown_of_below hb none) (by simp),h2⟩
theorem impl_LongestUp.MapAt.set {l:List (S41)} {n B g j:Nat} {W:World} (h:impl_LongestUp.MapAt l n B W) (hne:B≠g) (u:Value):impl_LongestUp.MapAt l n B (W.setCell ⟨g,j,none⟩ u):=by
 obtain ⟨D,h1,h2⟩:=h;exact ⟨D,h1.setCell hne u,h2⟩
theorem impl_LongestUp.MapAt.lt {l:List (S41)} {n B:Nat} {W:World} (h:impl_LongestUp.MapAt l n B W):B < W.heap.size:=by
 obtain ⟨D,h1,_⟩:=h;exact h1.lt
theorem impl_LongestUp.MapAt.skip {l:List (S41)} {n B:Nat} {W:World} (h:impl_LongestUp.MapAt l n B W) (hf:(rd_T41 l (n:Int)).f2=true):impl_LongestUp.MapAt l (n + 1) B W:=by
 obtain ⟨D,h1,h2⟩:=h;refine ⟨D,h1.mono (Nat.le_succ _),fun s=>?_⟩;rw [h2,impl_LongestUp.last,if_neg (by rw [hf];simp)]
theorem impl_LongestUp.MapAt.put {l:List (S41)} {n B:Nat} {W:World} {D:DataW Unit} {k:Int} (hk:k=(rd_T41 l (n:Int)).f1) (hD:Go.Maps.IsMap D) (h2:∀ s:Int,D.atKey (.int .i64 s) (.lit (.int .i64 0))=.lit (.int .i64 (impl_LongestUp.last l s n))) (h1:W.ownsMap Tryz.prog 2 (plainElem Tryz.prog 3) B (n + 1) (D.put (.int .i64 k) (.lit (.int .i64 (n:Int))))) (hf:(rd_T41 l (n:Int)).f2=false):impl_LongestUp.MapAt l (n + 1) B W:=by
 refine ⟨_,h1,fun s=>?_⟩;rw [impl_LongestUp.last]
 by_cases e:s=k
 ·subst e;rw [Go.Maps.atKey_put_same hD (by first|trivial|rfl|decide),if_pos ⟨hf,hk.symm⟩]
 ·rw [Go.Maps.atKey_put_other (fun h=>e (by injection h)),h2,if_neg (fun h=>e (h.2.symm.trans hk.symm))]
set_option maxHeartbeats 8000000 in
set_option maxRecDepth 100000 in
theorem impl_LongestUp.calls (A0:Option Addr) (c0:Nat) (l0:List (S41)) (r1 r2 r3:Int) (w:World) (hr0:Kd.C k41 w A0 l0.length l0) (hc0:l0.length≤c0) (h:impl_LongestUp.f l0=some (r1,r2,r3)) :
  Calls Tryz.prog 18 #[.slice A0 l0.length c0] w fun e w'=>e=.returned (.tuple #[.int .i64 r1,.int .i64 r2,.int .i64 r3])∧Below w.heap.size w w':=by
 unfold impl_LongestUp.f at h
 obtain ⟨v,hv,h⟩:=Option.bind_eq_some_iff.1 h;have HV:=am hv;have HR0:=am hr0;have HC0:=am hc0;have HVC:=am (impl_ValidLog.calls A0 c0 l0 _ w hr0 hc0 hv);have hu:=Tryz.underlying41;clear hv
 cases v with
 | false =>
  rw [if_pos rfl] at h;have h:=Option.some.inj h;simp only [Prod.mk.injEq] at h;obtain ⟨rfl,rfl,rfl⟩:=h;clear hr0 hc0
  go_enter Tryz.func18,Tryz.ntmps18
  go_wp2_with (go_at_call 16;refine HVC.out.mono ?_;rintro e w1 ⟨rfl,hb1⟩;have HB1:=am hb1;clear hb1)
  go_ret3
  exact ⟨rfl,HB1.out⟩
 | true =>
  rw [if_neg (by simp)] at h
  by_cases hq:l0.length≤60∧l0.all impl_LongestUp.inb=true
  ·rw [if_pos hq] at h;have h:=Option.some.inj h;obtain ⟨hl,hin⟩:=hq;have HH:=am h;have HL:=am hl;have HIN:=am hin;clear h hin hr0 hc0;generalize hn:l0.length=n at *;have Hn:=am hn;clear hn;have hmm:=@run_makeMap Tryz.prog
   go_enter Tryz.func18,Tryz.ntmps18
   go_wp2_with (go_at_call 16;refine HVC.out.mono ?_;rintro e w1 ⟨rfl,hb1⟩;have HB1:=am hb1;clear hb1)
   go_loopg [5,6,17] n (fun gg s5 s6 s17 wr=>∃ (kk:Nat) (b m:Int),kk≤n∧n - kk≤gg∧s17=.int .i64 kk∧s5=.int .i64 b∧s6=.int .i64 m∧Aside0 (impl_LongestUp.to l0 kk=(b,m))∧Aside0 (impl_LongestUp.MapAt l0 kk w1.heap.size wr)∧Aside0 (Below w.heap.size w wr))
   case atStart=>exact ⟨0,0,-1,Nat.zero_le _,by omega,rfl,rfl,rfl,⟨rfl⟩,⟨⟨.map [],World.ownsMap_made _ _ _ _,fun s=>rfl⟩⟩,⟨below_alloc HB1.out _⟩⟩
   case round =>
    obtain ⟨kk,b,m,hkk,hg,rfl,rfl,rfl,HT,HM,HB⟩:=hrel;clear hmm
    by_cases hlt:kk < n
    ·have hltz:(kk:Int) < (n:Int):=by omega
     obtain ⟨ad,e0,hx0,hx1,hx2⟩:=at_T41 HR0.out (kk:Int) (by omega) (by omega);cases e0;simp only [Int.toNat_natCast] at hx0 hx1 hx2;replace hx0:=(HB.out.cell (World.block_lt_of_cell? w _ hx0)).trans hx0;replace hx1:=(HB.out.cell (World.block_lt_of_cell? w _ hx1)).trans hx1;replace hx2:=(HB.out.cell (World.block_lt_of_cell? w _ hx2)).trans hx2;have IN:=impl_LongestUp.inb_at HIN.out (i:=(kk:Int)) (by omega) (by rw [Hn.out];exact hltz);have HS:Aside0 (impl_LongestUp.to l0 (kk + 1)=impl_LongestUp.step l0 kk (b,m)):=⟨by rw [impl_LongestUp.to,HT.out]⟩;obtain ⟨x,hx⟩:∃ x,rd_T41 l0 (kk:Int)=x:=⟨_,rfl⟩;have HX:=am hx;rw [hx] at hx0 hx1 hx2 IN;clear hx;have IN0:=am IN
     cases hf:x.f2 with
     | false =>
      have HF:=am hf;rw [hf] at hx2;clear hf IN
      go_wp2_with (first|((with_reducible refine gate_dst (N:=9) rfl ?_);refine box_event ?hg (N:=9) ?hd (cs:=#[.int .i64 0,.int .i64 0,.bool false]) (t:=41) ?hr ?_;(case hd=>rfl);(case hg=>rfl);(case hr=>exact zq9);intro gb hgb w8 hbox hb8;have HM8:=am (HM.out.kept hb8);have HB8:=am (below_step HB.out hb8);have BE8:=am hbox;have GE8:=am (show w.heap.size≤gb by rw [hgb];exact HB.out.size);have NE8:=am (show w1.heap.size≠gb by rw [hgb];exact Nat.ne_of_lt HM.out.lt);have hcz0:w8.cell? ⟨gb,0,none⟩=some (.int .i64 0):=(blk_cell BE8.out 0).trans rfl;have hcz1:w8.cell? ⟨gb,1,none⟩=some (.int .i64 0):=(blk_cell BE8.out 1).trans rfl;have hcz2:w8.cell? ⟨gb,2,none⟩=some (.bool false):=(blk_cell BE8.out 2).trans rfl;have hfz0:=blk_frozen BE8.out 0;have hfz1:=blk_frozen BE8.out 1;have hfz2:=blk_frozen BE8.out 2;clear hb8 hbox hgb)|((with_reducible refine gate_store (t:=41) (p:=9) rfl ?_);refine store_event (t:=41) (p:=9) (v:=?vo) (w1:=(((w8.setCell ⟨gb,0,none⟩ (.int .i64 x.f0)).setCell ⟨gb,1,none⟩ (.int .i64 x.f1)).setCell ⟨gb,2,none⟩ (.bool false))) ?hg ?ho ?hn ?hr ?_;(case ho=>rfl);(case hg=>rfl);(case hn=>rfl);(case hr=>exact zq9);intro w9 hw;have HM9:=am (show impl_LongestUp.MapAt l0 kk w1.heap.size w9 from by rw [hw];exact ((HM8.out.set NE8.out _).set NE8.out _).set NE8.out _);have HB9:=am (show Below w.heap.size w w9 from by rw [hw];exact below_set (below_set (below_set HB8.out GE8.out) GE8.out) GE8.out);have BE9:=am (show w9.heap[gb]?=some (.cells #[.int .i64 x.f0,.int .i64 x.f1,.bool false] 41 (0,0)) from by rw [hw];exact blk_put (cs:=#[.int .i64 x.f0,.int .i64 x.f1,.bool false]) (blk_put (cs:=#[.int .i64 x.f0,.int .i64 0,.bool false]) (blk_put (cs:=#[.int .i64 0,.int .i64 0,.bool false]) BE8.out 0 _ rfl) 1 _ rfl) 2 _ rfl);clear hw hcz0 hcz1 hcz2 hfz0 hfz1 hfz2;have hd0:w9.cell? ⟨gb,0,none⟩=some (.int .i64 x.f0):=(blk_cell BE9.out 0).trans rfl;have hd1:w9.cell? ⟨gb,1,none⟩=some (.int .i64 x.f1):=(blk_cell BE9.out 1).trans rfl;have hd2:w9.cell? ⟨gb,2,none⟩=some (.bool false):=(blk_cell BE9.out 2).trans rfl;obtain ⟨D,hown,hat⟩:=HM9.out;have HOWN:=am hown;have HAT:=am hat;clear hown hat)|(at_mapUpdate;refine wpList_mapUpdate_own _ rfl _ _ _ 77 rfl 2 3 (Go.Maps.int_keyed Tryz.underlying2) Tryz.underlying77 _ w1.heap.size kk _ rfl HOWN.out (by have:=HL.out;unfold maxLen;omega) _ _ _ rfl rfl (Go.Maps.keyOf_int_mk Tryz.underlying2 (impl_LongestUp.wf IN0.out.2.2.1 (by have:=IN0.out.2.2.2;omega))) _ [] (plainElem_int Tryz.underlying3 (impl_LongestUp.wf (by omega) (by have:=HL.out;omega))) ?_;intro w10 hown1 hgrow1;have HM10:=am (impl_LongestUp.MapAt.put (l:=l0) (n:=kk) (by rw [HX.out]) HOWN.out.isMap HAT.out hown1 (by rw [HX.out];exact HF.out));have HB10:=am (HB9.out.grown hgrow1 HB9.out.size (fun j hj=>by cases hj;exact HB1.out.size));clear hown1 hgrow1))
      go_roundg (n - (kk + 1))
      case measure=>omega
      case rel=>exact ⟨kk + 1,b,m,by omega,by omega,by go_num,rfl,rfl,⟨by rw [HS.out,impl_LongestUp.step,HX.out,if_neg (by rw [HF.out];simp)]⟩,HM10,HB10⟩
     | true =>
      have HF:=am hf;rw [hf] at hx2;clear hf IN;have LI:=impl_LongestUp.last_in l0 x.f1 kk;obtain ⟨c,hc⟩:∃ c,impl_LongestUp.last l0 x.f1 kk=c:=⟨_,rfl⟩;have HC:=am hc;rw [hc] at LI;obtain ⟨ad',e0',hy0,hy1,hy2⟩:=at_T41 HR0.out c (by omega) (by omega)
      obtain rfl:ad=ad':=by injection e0'
      have INy:=impl_LongestUp.inb_at HIN.out (i:=c) (by omega) (by rw [Hn.out];omega);obtain ⟨y,hy⟩:∃ y,rd_T41 l0 c=y:=⟨_,rfl⟩;have HY:=am hy;rw [hy] at hy0 INy;have HY0:=am hy0;have IN1:=IN0.out;have hw64:IntKind.i64.wrap (x.f0 - y.f0)=x.f0 - y.f0:=IntWalk.i64_in _ (by omega);have q0:=eq_true LI.1;have q1:(c < (n:Int))=True:=eq_true (by omega);have HS2:Aside0 (impl_LongestUp.to l0 (kk + 1)=if m < x.f0 - y.f0 then (c,x.f0 - y.f0) else (b,m)):=⟨by rw [HS.out,impl_LongestUp.step,HX.out,if_pos HF.out,HC.out,HY.out]⟩;clear hc hy0 hy1 hy2 e0' INy hy IN1 LI;have HW:=am hw64;clear hw64
      by_cases hcmp:m < x.f0 - y.f0
      ·have HCM:=am (decide_eq_true hcmp);rw [if_pos hcmp] at HS2;clear hcmp
       go_wp2_with (first|((with_reducible refine gate_dst (N:=9) rfl ?_);refine box_event ?hg (N:=9) ?hd (cs:=#[.int .i64 0,.int .i64 0,.bool false]) (t:=41) ?hr ?_;(case hd=>rfl);(case hg=>rfl);(case hr=>exact zq9);intro gb hgb w8 hbox hb8;have HM8:=am (HM.out.kept hb8);have HB8:=am (below_step HB.out hb8);have BE8:=am hbox;have GE8:=am (show w.heap.size≤gb by rw [hgb];exact HB.out.size);have NE8:=am (show w1.heap.size≠gb by rw [hgb];exact Nat.ne_of_lt HM.out.lt);have hcz0:w8.cell? ⟨gb,0,none⟩=some (.int .i64 0):=(blk_cell BE8.out 0).trans rfl;have hcz1:w8.cell? ⟨gb,1,none⟩=some (.int .i64 0):=(blk_cell BE8.out 1).trans rfl;have hcz2:w8.cell? ⟨gb,2,none⟩=some (.bool false):=(blk_cell BE8.out 2).trans rfl;have hfz0:=blk_frozen BE8.out 0;have hfz1:=blk_frozen BE8.out 1;have hfz2:=blk_frozen BE8.out 2;clear hb8 hbox hgb)|((with_reducible refine gate_store (t:=41) (p:=9) rfl ?_);refine store_event (t:=41) (p:=9) (v:=?vo) (w1:=(((w8.setCell ⟨gb,0,none⟩ (.int .i64 x.f0)).setCell ⟨gb,1,none⟩ (.int .i64 x.f1)).setCell ⟨gb,2,none⟩ (.bool true))) ?hg ?ho ?hn ?hr ?_;(case ho=>rfl);(case hg=>rfl);(case hn=>rfl);(case hr=>exact zq9);intro w9 hw;have HM9:=am (show impl_LongestUp.MapAt l0 kk w1.heap.size w9 from by rw [hw];exact ((HM8.out.set NE8.out _).set NE8.out _).set NE8.out _);have HB9:=am (show Below w.heap.size w w9 from by rw [hw];exact below_set (below_set (below_set HB8.out GE8.out) GE8.out) GE8.out);have BE9:=am (show w9.heap[gb]?=some (.cells #[.int .i64 x.f0,.int .i64 x.f1,.bool true] 41 (0,0)) from by rw [hw];exact blk_put (cs:=#[.int .i64 x.f0,.int .i64 x.f1,.bool false]) (blk_put (cs:=#[.int .i64 x.f0,.int .i64 0,.bool false]) (blk_put (cs:=#[.int .i64 0,.int .i64 0,.bool false]) BE8.out 0 _ rfl) 1 _ rfl) 2 _ rfl);clear hw hcz0 hcz1 hcz2 hfz0 hfz1 hfz2;have hd0:w9.cell? ⟨gb,0,none⟩=some (.int .i64 x.f0):=(blk_cell BE9.out 0).trans rfl;have hd1:w9.cell? ⟨gb,1,none⟩=some (.int .i64 x.f1):=(blk_cell BE9.out 1).trans rfl;have hd2:w9.cell? ⟨gb,2,none⟩=some (.bool true):=(blk_cell BE9.out 2).trans rfl;have hyz:=(HB9.out.cell (World.block_lt_of_cell? w _ HY0.out)).trans HY0.out;have hw64:=HW.out;have hcm:=HCM.out;obtain ⟨D,hown,hat⟩:=HM9.out;have HOWN:=am hown;have HAT:=am hat;clear hown hat)|(at_lookup;refine wpList_lookup_own_int _ rfl _ _ 77 rfl 2 3 .i64 (Go.Maps.int_keyed Tryz.underlying2) Tryz.underlying77 Tryz.underlying3 (impl_LongestUp.zeroE _) w1.heap.size kk _ rfl HOWN.out _ _ rfl (Go.Maps.keyOf_int_mk Tryz.underlying2 (impl_LongestUp.wf IN0.out.2.2.1 (by have:=IN0.out.2.2.2;omega))) ?_;intro cc hatc hwc;obtain rfl:c=cc:=(by have h_:=(HAT.out x.f1).symm.trans hatc;rw [HC.out] at h_;injection h_ with h_;injection h_ with _ h_);clear hatc hwc))
       go_region
       rename_i hK
       refine hK _ _ ?_;clear hK
       go_wp2
       go_region
       go_wp2
       go_roundg (n - (kk + 1))
       case measure=>omega
       case rel=>exact ⟨kk + 1,c,x.f0 - y.f0,by omega,by omega,by go_num,rfl,rfl,HS2,⟨HM9.out.skip (by rw [HX.out];exact HF.out)⟩,⟨by repeat (first|exact HB9.out|apply below_drew1)⟩⟩
      ·have HCM:=am (decide_eq_false hcmp);rw [if_neg hcmp] at HS2;clear hcmp
       go_wp2_with (first|((with_reducible refine gate_dst (N:=9) rfl ?_);refine box_event ?hg (N:=9) ?hd (cs:=#[.int .i64 0,.int .i64 0,.bool false]) (t:=41) ?hr ?_;(case hd=>rfl);(case hg=>rfl);(case hr=>exact zq9);intro gb hgb w8 hbox hb8;have HM8:=am (HM.out.kept hb8);have HB8:=am (below_step HB.out hb8);have BE8:=am hbox;have GE8:=am (show w.heap.size≤gb by rw [hgb];exact HB.out.size);have NE8:=am (show w1.heap.size≠gb by rw [hgb];exact Nat.ne_of_lt HM.out.lt);have hcz0:w8.cell? ⟨gb,0,none⟩=some (.int .i64 0):=(blk_cell BE8.out 0).trans rfl;have hcz1:w8.cell? ⟨gb,1,none⟩=some (.int .i64 0):=(blk_cell BE8.out 1).trans rfl;have hcz2:w8.cell? ⟨gb,2,none⟩=some (.bool false):=(blk_cell BE8.out 2).trans rfl;have hfz0:=blk_frozen BE8.out 0;have hfz1:=blk_frozen BE8.out 1;have hfz2:=blk_frozen BE8.out 2;clear hb8 hbox hgb)|((with_reducible refine gate_store (t:=41) (p:=9) rfl ?_);refine store_event (t:=41) (p:=9) (v:=?vo) (w1:=(((w8.setCell ⟨gb,0,none⟩ (.int .i64 x.f0)).setCell ⟨gb,1,none⟩ (.int .i64 x.f1)).setCell ⟨gb,2,none⟩ (.bool true))) ?hg ?ho ?hn ?hr ?_;(case ho=>rfl);(case hg=>rfl);(case hn=>rfl);(case hr=>exact zq9);intro w9 hw;have HM9:=am (show impl_LongestUp.MapAt l0 kk w1.heap.size w9 from by rw [hw];exact ((HM8.out.set NE8.out _).set NE8.out _).set NE8.out _);have HB9:=am (show Below w.heap.size w w9 from by rw [hw];exact below_set (below_set (below_set HB8.out GE8.out) GE8.out) GE8.out);have BE9:=am (show w9.heap[gb]?=some (.cells #[.int .i64 x.f0,.int .i64 x.f1,.bool true] 41 (0,0)) from by rw [hw];exact blk_put (cs:=#[.int .i64 x.f0,.int .i64 x.f1,.bool false]) (blk_put (cs:=#[.int .i64 x.f0,.int .i64 0,.bool false]) (blk_put (cs:=#[.int .i64 0,.int .i64 0,.bool false]) BE8.out 0 _ rfl) 1 _ rfl) 2 _ rfl);clear hw hcz0 hcz1 hcz2 hfz0 hfz1 hfz2;have hd0:w9.cell? ⟨gb,0,none⟩=some (.int .i64 x.f0):=(blk_cell BE9.out 0).trans rfl;have hd1:w9.cell? ⟨gb,1,none⟩=some (.int .i64 x.f1):=(blk_cell BE9.out 1).trans rfl;have hd2:w9.cell? ⟨gb,2,none⟩=some (.bool true):=(blk_cell BE9.out 2).trans rfl;have hyz:=(HB9.out.cell (World.block_lt_of_cell? w _ HY0.out)).trans HY0.out;have hw64:=HW.out;have hcm:=HCM.out;obtain ⟨D,hown,hat⟩:=HM9.out;have HOWN:=am hown;have HAT:=am hat;clear hown hat)|(at_lookup;refine wpList_lookup_own_int _ rfl _ _ 77 rfl 2 3 .i64 (Go.Maps.int_keyed Tryz.underlying2) Tryz.underlying77 Tryz.underlying3 (impl_LongestUp.zeroE _) w1.heap.size kk _ rfl HOWN.out _ _ rfl (Go.Maps.keyOf_int_mk Tryz.underlying2 (impl_LongestUp.wf IN0.out.2.2.1 (by have:=IN0.out.2.2.2;omega))) ?_;intro cc hatc hwc;obtain rfl:c=cc:=(by have h_:=(HAT.out x.f1).symm.trans hatc;rw [HC.out] at h_;injection h_ with h_;injection h_ with _ h_);clear hatc hwc))
       go_region
       rename_i hK
       refine hK _ _ ?_;clear hK
       go_wp2
       go_roundg (n - (kk + 1))
       case measure=>omega
       case rel=>exact ⟨kk + 1,b,m,by omega,by omega,by go_num,rfl,rfl,HS2,⟨HM9.out.skip (by rw [HX.out];exact HF.out)⟩,⟨by repeat (first|exact HB9.out|apply below_drew1)⟩⟩
    ·have hltz:¬ (kk:Int) < (n:Int):=by omega
     have:kk=n:=by omega
     subst this;have hr:=HH.out;rw [HT.out] at hr;simp only at hr
     by_cases hneg:m < 0
     ·rw [if_pos hneg] at hr;simp only [Prod.mk.injEq] at hr;obtain ⟨rfl,rfl,rfl⟩:=hr
      go_wp2
      go_ret3
      exact ⟨rfl,HB.out⟩
     ·rw [if_neg hneg] at hr;simp only [Prod.mk.injEq] at hr;obtain ⟨rfl,rfl,rfl⟩:=hr
      go_wp2
      go_ret3
      exact ⟨rfl,HB.out⟩
  ·rw [if_neg hq] at h;cases h
def cmp_isNaN_int64.f (a0:Int):Option (Bool):=some (a0 != a0)
set_option maxHeartbeats 8000000 in
set_option maxRecDepth 100000 in
theorem cmp_isNaN_int64.calls (a0:Int) (r:Bool) (w:World) (h:cmp_isNaN_int64.f a0=some r) :
  Calls Tryz.prog 65 #[.int .i64 a0] w fun e w'=>e=.returned (.bool r)∧Drawn0 w w':=by
 have H:(some (a0 != a0))=some r:=h;clear h;obtain rfl:=Option.some.inj H
 go_enter Tryz.func65,Tryz.ntmps65
 go_wp2
 go_ret
 exact ⟨by first|rfl|(simp only [IntKind.wrap_i64,wrap64];done)|(simp;done)|(simp [*];done),by repeat (first|exact Drawn0.refl _|apply Drawn0.step)⟩
def cmp_Compare_int64.f (a0:Int) (a1:Int):Option (Int):=(cmp_isNaN_int64.f a0).bind fun t101=>((cmp_isNaN_int64.f a1).bind fun t102=>(if t101=true then (if t102=true then (some 0) else (some (-1))) else (if t102=true then (some 1) else (if a0 < a1 then (some (-1)) else (if a0 > a1 then (some 1) else (some 0))))))
set_option maxHeartbeats 8000000 in
set_option maxRecDepth 100000 in
theorem cmp_Compare_int64.calls (a0:Int) (a1:Int) (r:Int) (w:World) (h:cmp_Compare_int64.f a0 a1=some r) :
  Calls Tryz.prog 48 #[.int .i64 a0,.int .i64 a1] w fun e w'=>e=.returned (.int .i64 r)∧Drawn0 w w':=by
 have H:((cmp_isNaN_int64.f a0).bind fun t101=>((cmp_isNaN_int64.f a1).bind fun t102=>(if t101=true then (if t102=true then (some 0) else (some (-1))) else (if t102=true then (some 1) else (if a0 < a1 then (some (-1)) else (if a0 > a1 then (some 1) else (some 0)))))))=some r:=h;clear h;replace H:=Option.bind_eq_some_iff.mp H;obtain ⟨t101,A30,H⟩:=H;replace H:((cmp_isNaN_int64.f a1).bind fun t102=>(if t101=true then (if t102=true then (some 0) else (some (-1))) else (if t102=true then (some 1) else (if a0 < a1 then (some (-1)) else (if a0 > a1 then (some 1) else (some 0))))))=some r:=H;have A3:=am A30;clear A30;replace H:=Option.bind_eq_some_iff.mp H;obtain ⟨t102,A40,H⟩:=H;replace H:(if t101=true then (if t102=true then (some 0) else (some (-1))) else (if t102=true then (some 1) else (if a0 < a1 then (some (-1)) else (if a0 > a1 then (some 1) else (some 0)))))=some r:=H;have A4:=am A40;clear A40
 by_cases c5:t101=true
 ·subst c5
  have H1:(if t102=true then (some 0) else (some (-1)))=some r:=by rw [if_pos rfl] at H;exact H
  clear H;have H:=H1;clear H1
  by_cases c6:t102=true
  ·subst c6
   have H1:(some 0)=some r:=by rw [if_pos rfl] at H;exact H
   clear H;have H:=H1;clear H1;obtain rfl:=Option.some.inj H
   go_enter Tryz.func48,Tryz.ntmps48
   go_wp2_with (first|((with_reducible refine gate_callee (f:=65) rfl ?_);refine goesL_ (some 8) rfl rfl Tryz.func65 zq18 rfl #[.int .i64 a0] rfl zq1 ?_;(with_reducible refine (cmp_isNaN_int64.calls a0 true _ A3.out).mono ?_);rintro e w' ⟨rfl,⟨nd,rfl⟩⟩;refine ⟨_,rfl,?_⟩)|((with_reducible refine gate_callee (f:=65) rfl ?_);refine goesL_ (some 10) rfl rfl Tryz.func65 zq18 rfl #[.int .i64 a1] rfl zq1 ?_;(with_reducible refine (cmp_isNaN_int64.calls a1 true _ A4.out).mono ?_);rintro e w' ⟨rfl,⟨nd,rfl⟩⟩;refine ⟨_,rfl,?_⟩))
   go_ret
   exact ⟨by first|rfl|(simp only [IntKind.wrap_i64,wrap64];done)|(simp;done)|(simp [*];done),by repeat (first|exact Drawn0.refl _|apply Drawn0.step)⟩
  ·replace c6:=Bool.eq_false_iff.mpr c6;subst c6
   have H1:(some (-1))=some r:=by rw [if_neg (show ¬ (false=true) by decide)] at H;exact H
   clear H;have H:=H1;clear H1;obtain rfl:=Option.some.inj H
   go_enter Tryz.func48,Tryz.ntmps48
   go_wp2_with (first|((with_reducible refine gate_callee (f:=65) rfl ?_);refine goesL_ (some 8) rfl rfl Tryz.func65 zq18 rfl #[.int .i64 a0] rfl zq1 ?_;(with_reducible refine (cmp_isNaN_int64.calls a0 true _ A3.out).mono ?_);rintro e w' ⟨rfl,⟨nd,rfl⟩⟩;refine ⟨_,rfl,?_⟩)|((with_reducible refine gate_callee (f:=65) rfl ?_);refine goesL_ (some 10) rfl rfl Tryz.func65 zq18 rfl #[.int .i64 a1] rfl zq1 ?_;(with_reducible refine (cmp_isNaN_int64.calls a1 false _ A4.out).mono ?_);rintro e w' ⟨rfl,⟨nd,rfl⟩⟩;refine ⟨_,rfl,?_⟩))
   go_ret
   exact ⟨by first|rfl|(simp only [IntKind.wrap_i64,wrap64];done)|(simp;done)|(simp [*];done),by repeat (first|exact Drawn0.refl _|apply Drawn0.step)⟩
 ·replace c5:=Bool.eq_false_iff.mpr c5;subst c5
  have H1:(if t102=true then (some 1) else (if a0 < a1 then (some (-1)) else (if a0 > a1 then (some 1) else (some 0))))=some r:=by rw [if_neg (show ¬ (false=true) by decide)] at H;exact H
  clear H;have H:=H1;clear H1
  by_cases c7:t102=true
  ·subst c7
   have H1:(some 1)=some r:=by rw [if_pos rfl] at H;exact H
   clear H;have H:=H1;clear H1;obtain rfl:=Option.some.inj H
   go_enter Tryz.func48,Tryz.ntmps48
   go_wp2_with (first|((with_reducible refine gate_callee (f:=65) rfl ?_);refine goesL_ (some 8) rfl rfl Tryz.func65 zq18 rfl #[.int .i64 a0] rfl zq1 ?_;(with_reducible refine (cmp_isNaN_int64.calls a0 false _ A3.out).mono ?_);rintro e w' ⟨rfl,⟨nd,rfl⟩⟩;refine ⟨_,rfl,?_⟩)|((with_reducible refine gate_callee (f:=65) rfl ?_);refine goesL_ (some 10) rfl rfl Tryz.func65 zq18 rfl #[.int .i64 a1] rfl zq1 ?_;(with_reducible refine (cmp_isNaN_int64.calls a1 true _ A4.out).mono ?_);rintro e w' ⟨rfl,⟨nd,rfl⟩⟩;refine ⟨_,rfl,?_⟩))
   go_ret
   exact ⟨by first|rfl|(simp only [IntKind.wrap_i64,wrap64];done)|(simp;done)|(simp [*];done),by repeat (first|exact Drawn0.refl _|apply Drawn0.step)⟩
  ·replace c7:=Bool.eq_false_iff.mpr c7;subst c7
   have H1:(if a0 < a1 then (some (-1)) else (if a0 > a1 then (some 1) else (some 0)))=some r:=by rw [if_neg (show ¬ (false=true) by decide)] at H;exact H
   clear H;have H:=H1;clear H1
   by_cases c8:a0 < a1
   ·rw [if_pos c8] at H;have c8b0:=decide_eq_true c8;clear c8;obtain rfl:=Option.some.inj H
    go_enter Tryz.func48,Tryz.ntmps48
    go_wp2_with (first|((with_reducible refine gate_callee (f:=65) rfl ?_);refine goesL_ (some 8) rfl rfl Tryz.func65 zq18 rfl #[.int .i64 a0] rfl zq1 ?_;(with_reducible refine (cmp_isNaN_int64.calls a0 false _ A3.out).mono ?_);rintro e w' ⟨rfl,⟨nd,rfl⟩⟩;refine ⟨_,rfl,?_⟩)|((with_reducible refine gate_callee (f:=65) rfl ?_);refine goesL_ (some 10) rfl rfl Tryz.func65 zq18 rfl #[.int .i64 a1] rfl zq1 ?_;(with_reducible refine (cmp_isNaN_int64.calls a1 false _ A4.out).mono ?_);rintro e w' ⟨rfl,⟨nd,rfl⟩⟩;refine ⟨_,rfl,?_⟩))
    go_ret
    exact ⟨by first|rfl|(simp only [IntKind.wrap_i64,wrap64];done)|(simp;done)|(simp [*];done),by repeat (first|exact Drawn0.refl _|apply Drawn0.step)⟩
   ·rw [if_neg c8] at H;have c8b0:=decide_eq_false c8;clear c8
    by_cases c9:a0 > a1
    ·rw [if_pos c9] at H;have c9b0:decide (a1 < a0)=true:=decide_eq_true c9;clear c9;obtain rfl:=Option.some.inj H
     go_enter Tryz.func48,Tryz.ntmps48
     go_wp2_with (first|((with_reducible refine gate_callee (f:=65) rfl ?_);refine goesL_ (some 8) rfl rfl Tryz.func65 zq18 rfl #[.int .i64 a0] rfl zq1 ?_;(with_reducible refine (cmp_isNaN_int64.calls a0 false _ A3.out).mono ?_);rintro e w' ⟨rfl,⟨nd,rfl⟩⟩;refine ⟨_,rfl,?_⟩)|((with_reducible refine gate_callee (f:=65) rfl ?_);refine goesL_ (some 10) rfl rfl Tryz.func65 zq18 rfl #[.int .i64 a1] rfl zq1 ?_;(with_reducible refine (cmp_isNaN_int64.calls a1 false _ A4.out).mono ?_);rintro e w' ⟨rfl,⟨nd,rfl⟩⟩;refine ⟨_,rfl,?_⟩))
     go_ret
     exact ⟨by first|rfl|(simp only [IntKind.wrap_i64,wrap64];done)|(simp;done)|(simp [*];done),by repeat (first|exact Drawn0.refl _|apply Drawn0.step)⟩
    ·rw [if_neg c9] at H;have c9b0:decide (a1 < a0)=false:=decide_eq_false c9;clear c9;obtain rfl:=Option.some.inj H
     go_enter Tryz.func48,Tryz.ntmps48
     go_wp2_with (first|((with_reducible refine gate_callee (f:=65) rfl ?_);refine goesL_ (some 8) rfl rfl Tryz.func65 zq18 rfl #[.int .i64 a0] rfl zq1 ?_;(with_reducible refine (cmp_isNaN_int64.calls a0 false _ A3.out).mono ?_);rintro e w' ⟨rfl,⟨nd,rfl⟩⟩;refine ⟨_,rfl,?_⟩)|((with_reducible refine gate_callee (f:=65) rfl ?_);refine goesL_ (some 10) rfl rfl Tryz.func65 zq18 rfl #[.int .i64 a1] rfl zq1 ?_;(with_reducible refine (cmp_isNaN_int64.calls a1 false _ A4.out).mono ?_);rintro e w' ⟨rfl,⟨nd,rfl⟩⟩;refine ⟨_,rfl,?_⟩))
     go_ret
     exact ⟨by first|rfl|(simp only [IntKind.wrap_i64,wrap64];done)|(simp;done)|(simp [*];done),by repeat (first|exact Drawn0.refl _|apply Drawn0.step)⟩
def cmp_Or_int.l0:Nat→Int→List Int→Int→Int→Option (Int)
 | 0,_,_,_,_=>none
 | k + 1,x3,x6,x7,x8=>if x8 < x7 then (if 0≤x8 then (if x8 < (x6.length:Int) then (if (rd x6 x8)=x3 then (cmp_Or_int.l0 k x3 x6 x7 (wrap64 (x8 + 1))) else (some (rd x6 x8))) else (none)) else (none)) else (some x3)
def cmp_Or_int.f (k:Nat) (l0:List Int):Option (Int):=cmp_Or_int.l0 k 0 l0 (l0.length:Int) 0
set_option maxHeartbeats 8000000 in
set_option maxRecDepth 100000 in
theorem cmp_Or_int.calls (k:Nat) (A0:Option Addr) (c0:Nat) (l0:List Int) (r:Int) (w:World) (hr0:Kd.C (Kd.int .i64) w A0 l0.length l0) (hc0:l0.length≤c0) (h:cmp_Or_int.f k l0=some r) :
  Calls Tryz.prog 47 #[.slice A0 l0.length c0] w fun e w'=>e=.returned (.int .i64 r)∧Drawn0 w w':=by
 have HR0:=am hr0;have HC0:=am hc0;clear hr0 hc0;have H:(cmp_Or_int.l0 k 0 l0 (l0.length:Int) 0)=some r:=h;clear h;have H':=am H;clear H
 go_enter Tryz.func47,Tryz.ntmps47
 go_wp2
 go_loopg [8] k (fun kq v8 w'=>∃ (x8_1:Int),v8=.int .i64 x8_1∧Aside0 (cmp_Or_int.l0 kq 0 l0 (l0.length:Int) x8_1=some r)∧Aside0 (kq≤k)∧Drawn0 w w')
 case atStart=>exact ⟨(0),zq2,H',⟨Nat.le_refl _⟩,by repeat (first|exact Drawn0.refl _|apply Drawn0.step)⟩
 case round =>
  clear H';obtain ⟨x8_1,rfl,HA,HK1,⟨m1,rfl⟩⟩:=hrel
  cases gk with
  | zero=>exact absurd HA.out (by simp [cmp_Or_int.l0])
  | succ k1 =>
   have H:=HA.out;clear HA;simp only [cmp_Or_int.l0] at H
   by_cases c2:x8_1 < (l0.length:Int)
   ·rw [if_pos c2] at H;have c2b0:=decide_eq_true c2;clear c2
    by_cases c3:0≤x8_1
    ·rw [if_pos c3] at H;have c3b0:=decide_eq_true c3;clear c3
     by_cases c4:x8_1 < (l0.length:Int)
     ·rw [if_pos c4] at H;have c4b0:=decide_eq_true c4;clear c4
      by_cases c5:(rd l0 x8_1)=0
      ·rw [if_pos c5] at H;have c5b0:=beq_iff_eq.mpr c5;have c5b1:=bne_eq_false_iff_eq.mpr c5;clear c5;have H':=am H;clear H;have p101:0≤(x8_1:Int):=of_decide_eq_true zq3;have q101:x8_1 < (l0.length:Int):=of_decide_eq_true zq3;obtain ⟨ad101,e101,hx101_0⟩:=Kd.at_int HR0.out x8_1 p101 q101;cases e101;replace p101:=eq_true p101;replace q101:=eq_true q101
       go_wp2
       go_roundg k1
       case measure=>have:=HK1.out;omega
       case rel=>exact ⟨(wrap64 (x8_1 + 1)),zq2,H',⟨by have:=HK1.out;omega⟩,by repeat (first|exact Drawn0.refl _|apply Drawn0.step)⟩
      ·rw [if_neg c5] at H;have c5b0:=beq_eq_false_iff_ne.mpr c5;have c5b1:=bne_iff_ne.mpr c5;obtain rfl:=Option.some.inj H;have p101:0≤(x8_1:Int):=of_decide_eq_true zq3;have q101:x8_1 < (l0.length:Int):=of_decide_eq_true zq3;obtain ⟨ad101,e101,hx101_0⟩:=Kd.at_int HR0.out x8_1 p101 q101;cases e101;replace p101:=eq_true p101;replace q101:=eq_true q101
       go_wp2
       go_ret
       exact ⟨by first|rfl|(simp only [IntKind.wrap_i64,wrap64];done)|(simp;done)|(simp [*];done),by repeat (first|exact Drawn0.refl _|apply Drawn0.step)⟩
     ·rw [if_neg c4] at H;exact absurd H (by simp)
    ·rw [if_neg c3] at H;exact absurd H (by simp)
   ·rw [if_neg c2] at H;have c2b0:=decide_eq_false c2;clear c2;obtain rfl:=Option.some.inj H
    go_wp2
    go_ret
    exact ⟨by first|rfl|(simp only [IntKind.wrap_i64,wrap64];done)|(simp;done)|(simp [*];done),by repeat (first|exact Drawn0.refl _|apply Drawn0.step)⟩
def impl_Entry_agree.f (a0_0:Int) (a0_1:Int) (a0_2:Bool) (a1_0:Int) (a1_1:Int) (a1_2:Bool):Option (Bool):=if a0_1=a1_1 then (some (a0_2 == a1_2)) else (some false)
set_option maxHeartbeats 8000000 in
set_option maxRecDepth 100000 in
theorem impl_Entry_agree.calls (a0_0:Int) (a0_1:Int) (a0_2:Bool) (a1_0:Int) (a1_1:Int) (a1_2:Bool) (r:Bool) (w:World) (h:impl_Entry_agree.f a0_0 a0_1 a0_2 a1_0 a1_1 a1_2=some r) :
  Calls Tryz.prog 46 #[.agg #[.int .i64 a0_0,.int .i64 a0_1,.bool a0_2],.agg #[.int .i64 a1_0,.int .i64 a1_1,.bool a1_2]] w fun e w'=>e=.returned (.bool r)∧Below w.heap.size w w':=by
 have hu41:=Tryz.underlying41;have HB:=am (Below.refl w.heap.size w);have H:(if a0_1=a1_1 then (some (a0_2 == a1_2)) else (some false))=some r:=h;clear h
 by_cases c3:a0_1=a1_1
 ·rw [if_pos c3] at H;have c3b0:=beq_iff_eq.mpr c3;have c3b1:=bne_eq_false_iff_eq.mpr c3;clear c3;obtain rfl:=Option.some.inj H
  go_enter Tryz.func46,Tryz.ntmps46
  go_wp2_with (first|((with_reducible refine gate_dst (N:=2) rfl ?_);refine box_event ?hg (N:=2) ?hd (cs:=#[.int .i64 a0_0,.int .i64 a0_1,.bool a0_2]) (t:=41) ?hr ?_;(case hd=>rfl);(case hg=>rfl);(case hr=>exact zq9);intro gb101 hg w4 hbox hb;have n0_:=am (below_step zq0 hb);have n1_:=am (hbox);have n2_:=am ((by rw [hg];exact (below_size zq0):w.heap.size≤gb101));have n3_:=am ((by rw [hg];exact (below_size zq0):w.heap.size≤gb101));clear HB;have HB:=n0_;have BK101:=n1_;have GW101:=n2_;have GE101:=n3_;clear n0_ n1_ n2_ n3_;clear hb hbox hg)|((with_reducible refine gate_dst (N:=3) rfl ?_);refine box_event ?hg (N:=3) ?hd (cs:=#[.int .i64 a1_0,.int .i64 a1_1,.bool a1_2]) (t:=41) ?hr ?_;(case hd=>rfl);(case hg=>rfl);(case hr=>exact zq9);intro gb102 hg w5 hbox hb;have n0_:=am (blk_below (g:=gb101) (o:=.cells #[.int .i64 a0_0,.int .i64 a0_1,.bool a0_2] 41 (0,0)) zq7 hb);have n1_:=am (below_step zq5 hb);have n2_:=am (hbox);have n3_:=am ((by rw [hg];exact (below_size zq5):w.heap.size≤gb102));have n4_:=am ((by rw [hg];exact (below_size zq5):w.heap.size≤gb102));have n5_:=am ((by rw [hg];exact Nat.ne_of_lt (blk_lt (g:=gb101) (o:=.cells #[.int .i64 a0_0,.int .i64 a0_1,.bool a0_2] 41 (0,0)) zq7):gb101≠gb102));have n6_:=am ((by rw [hg];exact Nat.ne_of_gt (blk_lt (g:=gb101) (o:=.cells #[.int .i64 a0_0,.int .i64 a0_1,.bool a0_2] 41 (0,0)) zq7):gb102≠gb101));clear BK101;clear HB;have BK101:=n0_;have HB:=n1_;have BK102:=n2_;have GW102:=n3_;have GE102:=n4_;have NB101_102:=n5_;have NB102_101:=n6_;clear n0_ n1_ n2_ n3_ n4_ n5_ n6_;clear hb hbox hg;have hnb6:=NB101_102.out;have hnc6:=NB102_101.out;have hcz7_0:w5.cell? ⟨gb101,0,none⟩=some (.int .i64 a0_0):=(blk_cell BK101.out 0).trans rfl;have hcz7_1:w5.cell? ⟨gb101,1,none⟩=some (.int .i64 a0_1):=(blk_cell BK101.out 1).trans rfl;have hcz7_2:w5.cell? ⟨gb101,2,none⟩=some (.bool a0_2):=(blk_cell BK101.out 2).trans rfl;have hfz7_0:=blk_frozen BK101.out 0;have hfz7_1:=blk_frozen BK101.out 1;have hfz7_2:=blk_frozen BK101.out 2;have hcz8_0:w5.cell? ⟨gb102,0,none⟩=some (.int .i64 a1_0):=(blk_cell BK102.out 0).trans rfl;have hcz8_1:w5.cell? ⟨gb102,1,none⟩=some (.int .i64 a1_1):=(blk_cell BK102.out 1).trans rfl;have hcz8_2:w5.cell? ⟨gb102,2,none⟩=some (.bool a1_2):=(blk_cell BK102.out 2).trans rfl;have hfz8_0:=blk_frozen BK102.out 0;have hfz8_1:=blk_frozen BK102.out 1;have hfz8_2:=blk_frozen BK102.out 2))
  go_ret
  exact ⟨by first|rfl|(simp [errW_none,errW_some,IntKind.wrap_i64,wrap64];done)|(simp [errW_none,errW_some] <;> rfl)|(simp [*,errW_none,errW_some] <;> rfl),by repeat (first|(with_reducible first|exact HB.out|apply below_alloc|apply pw_below_drewN|apply below_drew1|refine below_set ?_ GE101.out|refine below_set ?_ GE102.out)|exact HB.out)⟩
 ·rw [if_neg c3] at H;have c3b0:=beq_eq_false_iff_ne.mpr c3;have c3b1:=bne_iff_ne.mpr c3;obtain rfl:=Option.some.inj H
  go_enter Tryz.func46,Tryz.ntmps46
  go_wp2_with (first|((with_reducible refine gate_dst (N:=2) rfl ?_);refine box_event ?hg (N:=2) ?hd (cs:=#[.int .i64 a0_0,.int .i64 a0_1,.bool a0_2]) (t:=41) ?hr ?_;(case hd=>rfl);(case hg=>rfl);(case hr=>exact zq9);intro gb101 hg w9 hbox hb;have n0_:=am (below_step zq0 hb);have n1_:=am (hbox);have n2_:=am ((by rw [hg];exact (below_size zq0):w.heap.size≤gb101));have n3_:=am ((by rw [hg];exact (below_size zq0):w.heap.size≤gb101));clear HB;have HB:=n0_;have BK101:=n1_;have GW101:=n2_;have GE101:=n3_;clear n0_ n1_ n2_ n3_;clear hb hbox hg)|((with_reducible refine gate_dst (N:=3) rfl ?_);refine box_event ?hg (N:=3) ?hd (cs:=#[.int .i64 a1_0,.int .i64 a1_1,.bool a1_2]) (t:=41) ?hr ?_;(case hd=>rfl);(case hg=>rfl);(case hr=>exact zq9);intro gb102 hg w10 hbox hb;have n0_:=am (blk_below (g:=gb101) (o:=.cells #[.int .i64 a0_0,.int .i64 a0_1,.bool a0_2] 41 (0,0)) zq7 hb);have n1_:=am (below_step zq5 hb);have n2_:=am (hbox);have n3_:=am ((by rw [hg];exact (below_size zq5):w.heap.size≤gb102));have n4_:=am ((by rw [hg];exact (below_size zq5):w.heap.size≤gb102));have n5_:=am ((by rw [hg];exact Nat.ne_of_lt (blk_lt (g:=gb101) (o:=.cells #[.int .i64 a0_0,.int .i64 a0_1,.bool a0_2] 41 (0,0)) zq7):gb101≠gb102));have n6_:=am ((by rw [hg];exact Nat.ne_of_gt (blk_lt (g:=gb101) (o:=.cells #[.int .i64 a0_0,.int .i64 a0_1,.bool a0_2] 41 (0,0)) zq7):gb102≠gb101));clear BK101;clear HB;have BK101:=n0_;have HB:=n1_;have BK102:=n2_;have GW102:=n3_;have GE102:=n4_;have NB101_102:=n5_;have NB102_101:=n6_;clear n0_ n1_ n2_ n3_ n4_ n5_ n6_;clear hb hbox hg;have hnb11:=NB101_102.out;have hnc11:=NB102_101.out;have hcz12_0:w10.cell? ⟨gb101,0,none⟩=some (.int .i64 a0_0):=(blk_cell BK101.out 0).trans rfl;have hcz12_1:w10.cell? ⟨gb101,1,none⟩=some (.int .i64 a0_1):=(blk_cell BK101.out 1).trans rfl;have hcz12_2:w10.cell? ⟨gb101,2,none⟩=some (.bool a0_2):=(blk_cell BK101.out 2).trans rfl;have hfz12_0:=blk_frozen BK101.out 0;have hfz12_1:=blk_frozen BK101.out 1;have hfz12_2:=blk_frozen BK101.out 2;have hcz13_0:w10.cell? ⟨gb102,0,none⟩=some (.int .i64 a1_0):=(blk_cell BK102.out 0).trans rfl;have hcz13_1:w10.cell? ⟨gb102,1,none⟩=some (.int .i64 a1_1):=(blk_cell BK102.out 1).trans rfl;have hcz13_2:w10.cell? ⟨gb102,2,none⟩=some (.bool a1_2):=(blk_cell BK102.out 2).trans rfl;have hfz13_0:=blk_frozen BK102.out 0;have hfz13_1:=blk_frozen BK102.out 1;have hfz13_2:=blk_frozen BK102.out 2))
  go_ret
  exact ⟨by first|rfl|(simp [errW_none,errW_some,IntKind.wrap_i64,wrap64];done)|(simp [errW_none,errW_some] <;> rfl)|(simp [*,errW_none,errW_some] <;> rfl),by repeat (first|(with_reducible first|exact HB.out|apply below_alloc|apply pw_below_drewN|apply below_drew1|refine below_set ?_ GE101.out|refine below_set ?_ GE102.out)|exact HB.out)⟩
def impl_unless.f (a0:Bool) (a1:Int):Option (Int):=if a0=true then (some 0) else (some a1)
set_option maxHeartbeats 8000000 in
set_option maxRecDepth 100000 in
theorem impl_unless.calls (a0:Bool) (a1:Int) (r:Int) (w:World) (h:impl_unless.f a0 a1=some r) :
  Calls Tryz.prog 64 #[.bool a0,.int .i64 a1] w fun e w'=>e=.returned (.int .i64 r)∧Drawn0 w w':=by
 have H:(if a0=true then (some 0) else (some a1))=some r:=h;clear h
 by_cases c3:a0=true
 ·subst c3
  have H1:(some 0)=some r:=by rw [if_pos rfl] at H;exact H
  clear H;have H:=H1;clear H1;obtain rfl:=Option.some.inj H
  go_enter Tryz.func64,Tryz.ntmps64
  go_wp2
  go_ret
  exact ⟨by first|rfl|(simp only [IntKind.wrap_i64,wrap64];done)|(simp;done)|(simp [*];done),by repeat (first|exact Drawn0.refl _|apply Drawn0.step)⟩
 ·replace c3:=Bool.eq_false_iff.mpr c3;subst c3
  have H1:(some a1)=some r:=by rw [if_neg (show ¬ (false=true) by decide)] at H;exact H
  clear H;have H:=H1;clear H1;obtain rfl:=Option.some.inj H
  go_enter Tryz.func64,Tryz.ntmps64
  go_wp2
  go_ret
  exact ⟨by first|rfl|(simp only [IntKind.wrap_i64,wrap64];done)|(simp;done)|(simp [*];done),by repeat (first|exact Drawn0.refl _|apply Drawn0.step)⟩
def impl_logsCode.f (l0:List (S41)) (l1:List (S41)):Option (Int):=(impl_ValidLog.f l0).bind fun t101=>(if t101=true then ((impl_ValidLog.f l1).bind fun t102=>((impl_unless.f t102 1).bind fun t103=>(some t103))) else ((impl_unless.f false 1).bind fun t104=>(some t104)))
set_option maxHeartbeats 8000000 in
set_option maxRecDepth 100000 in
theorem impl_logsCode.calls (A0:Option Addr) (c0:Nat) (l0:List (S41)) (A1:Option Addr) (c1:Nat) (l1:List (S41)) (r:Int) (w:World) (hr0:Kd.C k41 w A0 l0.length l0) (hc0:l0.length≤c0) (hr1:Kd.C k41 w A1 l1.length l1) (hc1:l1.length≤c1) (h:impl_logsCode.f l0 l1=some r) :
  Calls Tryz.prog 45 #[.slice A0 l0.length c0,.slice A1 l1.length c1] w fun e w'=>e=.returned (.int .i64 r)∧Below w.heap.size w w':=by
 have HR0:=am hr0;have HC0:=am hc0;clear hr0 hc0;have HR1:=am hr1;have HC1:=am hc1;clear hr1 hc1;have HB:=am (Below.refl w.heap.size w);have H:((impl_ValidLog.f l0).bind fun t101=>(if t101=true then ((impl_ValidLog.f l1).bind fun t102=>((impl_unless.f t102 1).bind fun t103=>(some t103))) else ((impl_unless.f false 1).bind fun t104=>(some t104))))=some r:=h;clear h;replace H:=Option.bind_eq_some_iff.mp H;obtain ⟨t101,A30,H⟩:=H;replace H:(if t101=true then ((impl_ValidLog.f l1).bind fun t102=>((impl_unless.f t102 1).bind fun t103=>(some t103))) else ((impl_unless.f false 1).bind fun t104=>(some t104)))=some r:=H;have A3:=am A30;clear A30
 by_cases c4:t101=true
 ·subst c4
  have H1:((impl_ValidLog.f l1).bind fun t102=>((impl_unless.f t102 1).bind fun t103=>(some t103)))=some r:=by rw [if_pos rfl] at H;exact H
  clear H;have H:=H1;clear H1;replace H:=Option.bind_eq_some_iff.mp H;obtain ⟨t102,A50,H⟩:=H;replace H:((impl_unless.f t102 1).bind fun t103=>(some t103))=some r:=H;have A5:=am A50;clear A50;replace H:=Option.bind_eq_some_iff.mp H;obtain ⟨t103,A60,H⟩:=H;replace H:(some t103)=some r:=H;have A6:=am A60;clear A60;obtain rfl:=Option.some.inj H
  go_enter Tryz.func45,Tryz.ntmps45
  go_wp2_with (first|((with_reducible refine gate_callee (f:=16) rfl ?_);refine goesL_ (some 6) rfl rfl Tryz.func16 zq18 rfl #[.slice A0 l0.length c0] rfl zq1 ?_;(with_reducible refine (impl_ValidLog.calls _ _ l0 true _ ?side1 ?side2 A3.out).mono ?_);(case side1=>exact zq6);(case side2=>exact HC0.out);rintro e w7 ⟨rfl,hb⟩;refine ⟨_,rfl,?_⟩;have n0_:=am (below_step zq0 hb);clear HB;have HB:=n0_;clear n0_;(try clear hb);(try clear hb2);(try clear hk);(try clear hi))|(go_at_call 16;(with_reducible refine (impl_ValidLog.calls _ _ l1 t102 _ ?side1 ?side2 A5.out).mono ?_);(case side1=>exact zq8);(case side2=>exact HC1.out);rintro e w8 ⟨rfl,hb⟩;have n0_:=am (below_step zq0 hb);clear HB;have HB:=n0_;clear n0_;(try clear hb);(try clear hb2);(try clear hk);(try clear hi))|((with_reducible refine gate_callee (f:=64) rfl ?_);refine goesL_ (some 11) rfl rfl Tryz.func64 zq18 rfl #[.bool t102,.int .i64 1] rfl zq1 ?_;(with_reducible refine (impl_unless.calls t102 1 t103 _ A6.out).mono ?_);rintro e w' ⟨rfl,⟨nd,rfl⟩⟩;refine ⟨_,rfl,?_⟩))
  go_ret
  exact ⟨by first|rfl|(simp [errW_none,errW_some,IntKind.wrap_i64,wrap64];done)|(simp [errW_none,errW_some] <;> rfl)|(simp [*,errW_none,errW_some] <;> rfl),by repeat (first|(with_reducible first|exact HB.out|apply below_alloc|apply pw_below_drewN|apply below_drew1)|exact HB.out)⟩
 ·replace c4:=Bool.eq_false_iff.mpr c4;subst c4
  have H1:((impl_unless.f false 1).bind fun t104=>(some t104))=some r:=by rw [if_neg (show ¬ (false=true) by decide)] at H;exact H
  clear H;have H:=H1;clear H1;replace H:=Option.bind_eq_some_iff.mp H;obtain ⟨t104,A90,H⟩:=H;replace H:(some t104)=some r:=H;have A9:=am A90;clear A90;obtain rfl:=Option.some.inj H
  go_enter Tryz.func45,Tryz.ntmps45
  go_wp2_with (first|((with_reducible refine gate_callee (f:=16) rfl ?_);refine goesL_ (some 6) rfl rfl Tryz.func16 zq18 rfl #[.slice A0 l0.length c0] rfl zq1 ?_;(with_reducible refine (impl_ValidLog.calls _ _ l0 false _ ?side1 ?side2 A3.out).mono ?_);(case side1=>exact zq6);(case side2=>exact HC0.out);rintro e w10 ⟨rfl,hb⟩;refine ⟨_,rfl,?_⟩;have n0_:=am (below_step zq0 hb);clear HB;have HB:=n0_;clear n0_;(try clear hb);(try clear hb2);(try clear hk);(try clear hi))|((with_reducible refine gate_callee (f:=64) rfl ?_);refine goesL_ (some 11) rfl rfl Tryz.func64 zq18 rfl #[.bool false,.int .i64 1] rfl zq1 ?_;(with_reducible refine (impl_unless.calls false 1 t104 _ A9.out).mono ?_);rintro e w' ⟨rfl,⟨nd,rfl⟩⟩;refine ⟨_,rfl,?_⟩))
  go_ret
  exact ⟨by first|rfl|(simp [errW_none,errW_some,IntKind.wrap_i64,wrap64];done)|(simp [errW_none,errW_some] <;> rfl)|(simp [*,errW_none,errW_some] <;> rfl),by repeat (first|(with_reducible first|exact HB.out|apply below_alloc|apply pw_below_drewN|apply below_drew1)|exact HB.out)⟩
def impl_OffsetOf.ab (x:Int):Int:=if x < 0 then -x else x
def impl_OffsetOf.bet (m b n s:Int):Bool:=decide (m < n) || (decide (m=n) && (decide (impl_OffsetOf.ab s < impl_OffsetOf.ab b) || (decide (impl_OffsetOf.ab s=impl_OffsetOf.ab b) && decide (b < s))))
theorem impl_OffsetOf.bet_iff {m b n s:Int}:impl_OffsetOf.bet m b n s=true ↔ (m < n∨m=n∧(impl_OffsetOf.ab s < impl_OffsetOf.ab b∨impl_OffsetOf.ab s=impl_OffsetOf.ab b∧b < s)):=by simp [impl_OffsetOf.bet]
def impl_OffsetOf.IsBest (C:Int→Int) (K:Int→Prop) (b m:Int):Prop :=
 (b=0∧m=0∧∀ s,¬ K s)∨(K b∧C b=m∧0 < m∧∀ s,K s→impl_OffsetOf.bet m b (C s) s=false)
theorem impl_OffsetOf.IsBest.one {C:Int→Int} {K:Int→Prop} {b m b' m':Int} (h:impl_OffsetOf.IsBest C K b m) (h':impl_OffsetOf.IsBest C K b' m'):b=b'∧m=m':=by
 rcases h with ⟨rfl,rfl,h⟩|⟨hk,hc,hp,h⟩
 ·rcases h' with ⟨rfl,rfl,h'⟩|⟨hk',_⟩
  ·exact ⟨rfl,rfl⟩
  ·exact absurd hk' (h _)
 ·rcases h' with ⟨rfl,rfl,h'⟩|⟨hk',hc',hp',h'⟩
  ·exact absurd hk (h' _)
  ·have q1:=h _ hk';have q2:=h' _ hk;rw [hc'] at q1;rw [hc] at q2;rw [← Bool.not_eq_true,impl_OffsetOf.bet_iff] at q1 q2
   unfold impl_OffsetOf.ab at q1 q2
   omega
theorem impl_OffsetOf.IsBest.zero (C:Int→Int) {K:Int→Prop} (h:∀ s,¬ K s):impl_OffsetOf.IsBest C K 0 0:=.inl ⟨rfl,rfl,h⟩
theorem impl_OffsetOf.IsBest.same {C:Int→Int} {K K':Int→Prop} {b m:Int} (h:impl_OffsetOf.IsBest C K b m) (hk:∀ s,K' s ↔ K s):impl_OffsetOf.IsBest C K' b m:=by
 have:K'=K:=funext fun s=>propext (hk s)
 rw [this];exact h
theorem impl_OffsetOf.IsBest.step {C:Int→Int} {K K':Int→Prop} {b m x:Int} (h:impl_OffsetOf.IsBest C K b m) (hk:∀ s,K' s ↔ (K s∨s=x)) (hx:0 < C x) :
  impl_OffsetOf.IsBest C K' (if impl_OffsetOf.bet m b (C x) x=true then x else b) (if impl_OffsetOf.bet m b (C x) x=true then C x else m):=by
 have tr:∀ {s n},impl_OffsetOf.bet m b (C x) x=true→impl_OffsetOf.bet m b n s=false→impl_OffsetOf.bet (C x) x n s=false:=by
  intro s n h1 h2;rw [impl_OffsetOf.bet_iff] at h1;rw [← Bool.not_eq_true,impl_OffsetOf.bet_iff] at h2 ⊢
  unfold impl_OffsetOf.ab at *
  omega
 have rf:∀ n s,impl_OffsetOf.bet n s n s=false:=by
  intro n s;rw [← Bool.not_eq_true,impl_OffsetOf.bet_iff]
  omega
 by_cases hb:impl_OffsetOf.bet m b (C x) x=true
 ·rw [if_pos hb,if_pos hb];refine .inr ⟨(hk x).2 (.inr rfl),rfl,hx,fun s hs=>?_⟩
  rcases (hk s).1 hs with hs|rfl
  ·rcases h with ⟨rfl,rfl,h⟩|⟨_,_,_,h⟩
   ·exact absurd hs (h s)
   ·exact tr hb (h s hs)
  ·exact rf _ _
 ·rw [if_neg hb,if_neg hb]
  rcases h with ⟨rfl,rfl,h⟩|⟨h1,h2,h3,h⟩
  ·exact absurd (impl_OffsetOf.bet_iff.2 (.inl hx)) hb
  ·refine .inr ⟨(hk b).2 (.inl h1),h2,h3,fun s hs=>?_⟩
   rcases (hk s).1 hs with hs|rfl
   ·exact h s hs
   ·exact Bool.not_eq_true _ ▸ hb
def impl_OffsetOf.bstep (C:Int→Int) (p:Int × Int) (x:Int):Int × Int:=(if impl_OffsetOf.bet p.2 p.1 (C x) x=true then x else p.1,if impl_OffsetOf.bet p.2 p.1 (C x) x=true then C x else p.2)
theorem impl_OffsetOf.best_fold (C:Int→Int):∀ (L:List Int) (K:Int→Prop) (b m:Int),impl_OffsetOf.IsBest C K b m→(∀ x∈L,0 < C x)→impl_OffsetOf.IsBest C (fun s=>K s∨s∈L) (L.foldl (impl_OffsetOf.bstep C) (b,m)).1 (L.foldl (impl_OffsetOf.bstep C) (b,m)).2:=by
 intro L
 induction L with
 | nil=>intro K b m h _;exact h.same (fun s=>by simp)
 | cons x L ih =>
  intro K b m h hp;have:=h.step (K':=fun s=>K s∨s=x) (fun s=>Iff.rfl) (hp x (by simp));have:=ih _ _ _ this (fun y hy=>hp y (by simp [hy]));rw [List.foldl_cons];exact this.same (fun s=>by simp [or_assoc])
def impl_OffsetOf.cnt (L:List Int) (s:Int):Int:=(L.count s:Nat)
theorem impl_OffsetOf.cnt_snoc (L:List Int) (x s:Int):impl_OffsetOf.cnt (L ++ [x]) s=impl_OffsetOf.cnt L s + (if s=x then 1 else 0):=by
 unfold impl_OffsetOf.cnt
 rw [List.count_append]
 by_cases h:s=x
 ·subst h;simp
 ·rw [if_neg h];simp [Ne.symm h]
theorem impl_OffsetOf.cnt_pos {L:List Int} {s:Int}:0 < impl_OffsetOf.cnt L s ↔ s∈L:=by
 unfold impl_OffsetOf.cnt
 rw [← List.count_pos_iff (a:=s) (l:=L)]
 omega
theorem impl_OffsetOf.cnt_le (L:List Int) (s:Int):0≤impl_OffsetOf.cnt L s∧impl_OffsetOf.cnt L s≤(L.length:Int):=by
 unfold impl_OffsetOf.cnt
 have:=List.count_le_length (a:=s) (l:=L)
 omega
def impl_OffsetOf.res (L:List Int):Int × Int × Int :=
 if (L.foldl (impl_OffsetOf.bstep (impl_OffsetOf.cnt L)) (0,0)).2=0 then (0,0,6) else ((L.foldl (impl_OffsetOf.bstep (impl_OffsetOf.cnt L)) (0,0)).1,(L.foldl (impl_OffsetOf.bstep (impl_OffsetOf.cnt L)) (0,0)).2,0)
theorem impl_OffsetOf.res_of {L:List Int} {b m:Int} (h:impl_OffsetOf.IsBest (impl_OffsetOf.cnt L) (fun s=>s∈L) b m):impl_OffsetOf.res L=if m=0 then (0,0,6) else (b,m,0):=by
 have hh:=impl_OffsetOf.best_fold (impl_OffsetOf.cnt L) L (fun _=>False) 0 0 (impl_OffsetOf.IsBest.zero _ (fun s h=>h)) (fun x hx=>impl_OffsetOf.cnt_pos.2 hx);have:=(hh.same (K':=fun s=>s∈L) (fun s=>by simp)).one h
 unfold impl_OffsetOf.res
 rw [this.1,this.2]
theorem impl_OffsetOf.zeroE (w:World):(zeroValue 2).run Tryz.prog w=.ok (.int .i64 0) w:=by kernel_rfl
def impl_OffsetOf.inb (x:S41):Bool:=decide (0≤x.f0) && decide (x.f0≤100000)
theorem impl_OffsetOf.inb_at {l:List (S41)} (h:l.all impl_OffsetOf.inb=true) {i:Int} (h0:0≤i) (hi:i < (l.length:Int)):0≤(rd_T41 l i).f0∧(rd_T41 l i).f0≤100000:=by
 have hm:rd_T41 l i∈l:=by
  obtain ⟨j,rfl⟩:∃ j:Nat,i=(j:Int):=⟨i.toNat,by omega⟩
  have hj:j < l.length:=by omega
  have:rd_T41 l (j:Int)=l[j]:=by simp [rd_T41,List.getD_eq_getElem?_getD,List.getElem?_eq_getElem hj]
  rw [this];exact List.getElem_mem hj
 have:=List.all_eq_true.1 h _ hm;simp only [impl_OffsetOf.inb,Bool.and_eq_true,decide_eq_true_eq] at this
 omega
theorem impl_OffsetOf.wf {n:Int} (h0:-1000000≤n) (h1:n≤1000000):(Lit.int .i64 n).wf=true:=by
 simp [Lit.wf,IntKind.min,IntKind.max,IntKind.signed,IntKind.bits]
 omega
def impl_OffsetOf.dif (x y:S41):List Int:=if x.f1=y.f1∧x.f2=y.f2 then [x.f0 - y.f0] else []
def impl_OffsetOf.din (x:S41) (l:List (S41)):Nat→List Int
 | 0=>[]
 | k + 1=>impl_OffsetOf.din x l k ++ impl_OffsetOf.dif x (rd_T41 l (k:Int))
def impl_OffsetOf.dou (l0 l1:List (S41)):Nat→List Int
 | 0=>[]
 | i + 1=>impl_OffsetOf.dou l0 l1 i ++ impl_OffsetOf.din (rd_T41 l0 (i:Int)) l1 l1.length
theorem impl_OffsetOf.dif_len (x y:S41):(impl_OffsetOf.dif x y).length≤1:=by
 unfold impl_OffsetOf.dif
 split <;> simp
theorem impl_OffsetOf.din_len (x:S41) (l:List (S41)) (k:Nat):(impl_OffsetOf.din x l k).length≤k:=by
 induction k with
 | zero=>simp [impl_OffsetOf.din]
 | succ k ih =>
  have:=impl_OffsetOf.dif_len x (rd_T41 l (k:Int));rw [impl_OffsetOf.din,List.length_append]
  omega
theorem impl_OffsetOf.dou_len (l0 l1:List (S41)) (h:l1.length≤60) (i:Nat):(impl_OffsetOf.dou l0 l1 i).length≤60 * i:=by
 induction i with
 | zero=>simp [impl_OffsetOf.dou]
 | succ i ih =>
  have:=impl_OffsetOf.din_len (rd_T41 l0 (i:Int)) l1 l1.length;rw [impl_OffsetOf.dou,List.length_append]
  omega
def impl_OffsetOf.f (l0 l1:List (S41)):Option (Int × Int × Int) :=
 (impl_logsCode.f l0 l1).bind fun c=>if c≠0 then some (0,0,c) else if l0.length≤60∧l1.length≤60∧l0.all impl_OffsetOf.inb=true∧l1.all impl_OffsetOf.inb=true then some (impl_OffsetOf.res (impl_OffsetOf.dou l0 l1 l0.length)) else none
def impl_OffsetOf.MapAt (L:List Int) (B:Nat) (W:World):Prop:=∃ D:DataW Unit,W.ownsMap Tryz.prog 2 (plainElem Tryz.prog 2) B L.length D∧(∀ s:Int,D.atKey (.int .i64 s) (.lit (.int .i64 0))=.lit (.int .i64 (impl_OffsetOf.cnt L s)))∧∀ s:Int,Maps.has D (.int .i64 s)=true ↔ s∈L
theorem impl_OffsetOf.MapAt.kept {L:List Int} {B:Nat} {W W1:World} (h:impl_OffsetOf.MapAt L B W) (hb:Below W.heap.size W W1):impl_OffsetOf.MapAt L B W1:=by
 obtain ⟨D,h1,h2⟩:=h;exact ⟨D,h1.kept (grown_of_below hb none) (by simp),h2⟩
theorem impl_OffsetOf.MapAt.set {L:List Int} {B g j:Nat} {W:World} (h:impl_OffsetOf.MapAt L B W) (hne:B≠g) (u:Value):impl_OffsetOf.MapAt L B (W.setCell ⟨g,j,none⟩ u):=by
 obtain ⟨D,h1,h2⟩:=h;exact ⟨D,h1.setCell hne u,h2⟩
theorem impl_OffsetOf.MapAt.lt {L:List Int} {B:Nat} {W:World} (h:impl_OffsetOf.MapAt L B W):B < W.heap.size:=by
 obtain ⟨D,h1,_⟩:=h;exact h1.lt
theorem impl_OffsetOf.MapAt.put {L:List Int} {B:Nat} {W:World} {D:DataW Unit} {k:Int} (hD:Go.Maps.IsMap D) (h2:∀ s:Int,D.atKey (.int .i64 s) (.lit (.int .i64 0))=.lit (.int .i64 (impl_OffsetOf.cnt L s))) (h3:∀ s:Int,Maps.has D (.int .i64 s)=true ↔ s∈L) (h1:W.ownsMap Tryz.prog 2 (plainElem Tryz.prog 2) B (L.length + 1) (D.put (.int .i64 k) (.lit (.int .i64 (impl_OffsetOf.cnt L k + 1))))):impl_OffsetOf.MapAt (L ++ [k]) B W:=by
 refine ⟨_,by rw [List.length_append];exact h1,fun s=>?_,fun s=>?_⟩
 ·by_cases e:s=k
  ·subst e;rw [Go.Maps.atKey_put_same hD (by first|trivial|rfl|decide),impl_OffsetOf.cnt_snoc,if_pos rfl]
  ·rw [Go.Maps.atKey_put_other (fun h=>e (by injection h)),h2,impl_OffsetOf.cnt_snoc,if_neg e,Int.add_zero]
 ·by_cases e:s=k
  ·subst e
   simp [Go.Maps.has_put_same hD (show WideAt.IsKeyLit (.int .i64 s) from by first|trivial|rfl|decide)]
  ·rw [Go.Maps.has_put_other (fun h=>e (by injection h)),h3]
   simp [e]
theorem impl_OffsetOf.near_pos {b x n1 n2:Int} (h1:n1=if impl_OffsetOf.ab b < impl_OffsetOf.ab x then -1 else if impl_OffsetOf.ab b > impl_OffsetOf.ab x then 1 else 0) (h2:n2=if x < b then -1 else if x > b then 1 else 0) :
  decide ((if n1=0 then n2 else n1) > 0)=(decide (impl_OffsetOf.ab x < impl_OffsetOf.ab b) || (decide (impl_OffsetOf.ab x=impl_OffsetOf.ab b) && decide (b < x))):=by
 subst h1;subst h2;generalize impl_OffsetOf.ab x=p;generalize impl_OffsetOf.ab b=q;rw [Bool.eq_iff_iff];simp only [Bool.or_eq_true,Bool.and_eq_true,decide_eq_true_eq]
 repeat' split
 all_goals omega
theorem impl_OffsetOf.cmp_eq (a b:Int):cmp_Compare_int64.f a b=some (if a < b then -1 else if a > b then 1 else 0):=by
 unfold cmp_Compare_int64.f cmp_isNaN_int64.f
 simp only [bne_self_eq_false,Option.bind_some,Bool.false_eq_true,if_false]
 by_cases h1:a < b
 ·rw [if_pos h1,if_pos h1]
 ·rw [if_neg h1,if_neg h1]
  by_cases h2:a > b
  ·rw [if_pos h2,if_pos h2]
  ·rw [if_neg h2,if_neg h2]
theorem impl_OffsetOf.or_eq (n1 n2:Int):cmp_Or_int.f 9 [n1,n2]=some (if n1=0 then n2 else n1):=by
 by_cases h1:n1=0
 ·by_cases h2:n2=0
  ·subst h1;subst h2;simp [cmp_Or_int.f,cmp_Or_int.l0,rd,wrap64]
  ·subst h1;simp [cmp_Or_int.f,cmp_Or_int.l0,rd,wrap64,h2]
 ·simp [cmp_Or_int.f,cmp_Or_int.l0,rd,wrap64,h1]
theorem impl_OffsetOf.same_int (s x:Int):Lit.sameKey (.int .i64 s) (.int .i64 x)=decide (s=x):=by
 by_cases h:s=x
 ·subst h;rw [WideAt.sameKey_self (by first|trivial|rfl|decide)]
  simp
 ·rw [Go.Maps.sameKey_ne (fun h_=>h (by injection h_))]
  simp [h]
theorem impl_OffsetOf.left_step {L:List Int} {left:Lit→Bool} {x s:Int} (hx:x∈L):(s∈L∧(left (.int .i64 s) && !Lit.sameKey (.int .i64 s) (.int .i64 x))=false) ↔ ((s∈L∧left (.int .i64 s)=false)∨s=x):=by
 rw [impl_OffsetOf.same_int]
 by_cases h:s=x
 ·subst h;simp [hx]
 ·simp [h]
theorem impl_OffsetOf.dou_in {l0 l1:List (S41)} (h0:l0.all impl_OffsetOf.inb=true) (h1:l1.all impl_OffsetOf.inb=true) {n:Nat} (hn:n≤l0.length):∀ s∈impl_OffsetOf.dou l0 l1 n,-100000≤s∧s≤100000:=by
 induction n with
 | zero=>intro s hs;cases hs
 | succ n ih =>
  intro s hs;rw [impl_OffsetOf.dou] at hs
  rcases List.mem_append.1 hs with hs|hs
  ·exact ih (by omega) s hs
  ·have hx:=impl_OffsetOf.inb_at h0 (i:=(n:Int)) (by omega) (by omega);generalize rd_T41 l0 (n:Int)=x at *
   have:∀ k,k≤l1.length→∀ s∈impl_OffsetOf.din x l1 k,-100000≤s∧s≤100000:=by
    intro k
    induction k with
    | zero=>intro _ s hs;cases hs
    | succ k ihk =>
     intro hk s hs;rw [impl_OffsetOf.din] at hs
     rcases List.mem_append.1 hs with hs|hs
     ·exact ihk (by omega) s hs
     ·have hy:=impl_OffsetOf.inb_at h1 (i:=(k:Int)) (by omega) (by omega)
      unfold impl_OffsetOf.dif at hs
      split at hs
      ·simp only [List.mem_singleton] at hs
       omega
      ·cases hs
   exact this _ (Nat.le_refl _) s hs
set_option maxHeartbeats 8000000 in
set_option maxRecDepth 100000 in
theorem impl_OffsetOf.calls (A0:Option Addr) (c0:Nat) (l0:List (S41)) (A1:Option Addr) (c1:Nat) (l1:List (S41)) (r1 r2 r3:Int) (w:World) (hr0:Kd.C k41 w A0 l0.length l0) (hc0:l0.length≤c0) (hr1:Kd.C k41 w A1 l1.length l1) (hc1:l1.length≤c1) (h:impl_OffsetOf.f l0 l1=some (r1,r2,r3)) :
  Calls Tryz.prog 20 #[.slice A0 l0.length c0,.slice A1 l1.length c1] w fun e w'=>e=.returned (.tuple #[.int .i64 r1,.int .i64 r2,.int .i64 r3])∧Below w.heap.size w w':=by
 unfold impl_OffsetOf.f at h
 obtain ⟨v,hv,h⟩:=Option.bind_eq_some_iff.1 h;have HR0:=am hr0;have HR1:=am hr1;have HVC:=am (impl_logsCode.calls A0 c0 l0 A1 c1 l1 _ w hr0 hc0 hr1 hc1 hv);have hu:=Tryz.underlying41;clear hv hr0 hr1 hc0 hc1
 by_cases hv0:v=0
 ·subst hv0;rw [if_neg (by simp)] at h
  by_cases hq:l0.length≤60∧l1.length≤60∧l0.all impl_OffsetOf.inb=true∧l1.all impl_OffsetOf.inb=true
  ·rw [if_pos hq] at h;have h:=Option.some.inj h;obtain ⟨hl0,hl1,hin0,hin1⟩:=hq;have HH:=am h;have HL0:=am hl0;have HL1:=am hl1;have HI0:=am hin0;have HI1:=am hin1;have HDL:=am (impl_OffsetOf.dou_len l0 l1 hl1);have HDI:=am (fun x=>impl_OffsetOf.din_len x l1);clear h hin0 hin1;generalize hn0:l0.length=n0 at *;generalize hn1:l1.length=n1 at *;have Hn0:=am hn0;have Hn1:=am hn1;clear hn0 hn1;have hmm:=@run_makeMap Tryz.prog
   go_enter Tryz.func20,Tryz.ntmps20
   go_wp2_with (go_at_call 45;refine HVC.out.mono ?_;rintro e w1 ⟨rfl,hb1⟩;have HB1:=am hb1;clear hb1)
   go_loopg [27] n0 (fun gg s27 wr=>∃ (kk:Nat),kk≤n0∧n0 - kk≤gg∧s27=.int .i64 kk∧Aside0 (impl_OffsetOf.MapAt (impl_OffsetOf.dou l0 l1 kk) w1.heap.size wr)∧Aside0 (Below w.heap.size w wr))
   case atStart=>exact ⟨0,Nat.zero_le _,by omega,rfl,⟨⟨.map [],World.ownsMap_made _ _ _ _,fun s=>rfl,fun s=>by simp [Maps.has,impl_OffsetOf.dou]⟩⟩,⟨below_alloc HB1.out _⟩⟩
   case round =>
    obtain ⟨kk,hkk,hg,rfl,HM,HB⟩:=hrel;clear hmm
    by_cases hlt:kk < n0
    ·have hltz:(kk:Int) < (n0:Int):=by omega
     obtain ⟨ad,e0,hx0,hx1,hx2⟩:=at_T41 HR0.out (kk:Int) (by omega) (by omega);cases e0;simp only [Int.toNat_natCast] at hx0 hx1 hx2;replace hx0:=(HB.out.cell (World.block_lt_of_cell? w _ hx0)).trans hx0;replace hx1:=(HB.out.cell (World.block_lt_of_cell? w _ hx1)).trans hx1;replace hx2:=(HB.out.cell (World.block_lt_of_cell? w _ hx2)).trans hx2;have IX:=impl_OffsetOf.inb_at HI0.out (i:=(kk:Int)) (by omega) (by rw [Hn0.out];exact hltz);have HS:Aside0 (impl_OffsetOf.dou l0 l1 (kk + 1)=impl_OffsetOf.dou l0 l1 kk ++ impl_OffsetOf.din (rd_T41 l0 (kk:Int)) l1 n1):=⟨by rw [impl_OffsetOf.dou,Hn1.out]⟩;obtain ⟨x,hx⟩:∃ x,rd_T41 l0 (kk:Int)=x:=⟨_,rfl⟩;rw [hx] at hx0 hx1 hx2 IX HS;clear hx
     go_wp2_with (first|((with_reducible refine gate_dst (N:=10) rfl ?_);refine box_event ?hg (N:=10) ?hd (cs:=#[.int .i64 0,.int .i64 0,.bool false]) (t:=41) ?hr ?_;(case hd=>rfl);(case hg=>rfl);(case hr=>exact zq9);intro gb hgb w8 hbox hb8;have HM8:=am (HM.out.kept hb8);have HB8:=am (below_step HB.out hb8);have BE8:=am hbox;have GE8:=am (show w.heap.size≤gb by rw [hgb];exact HB.out.size);have NE8:=am (show w1.heap.size≠gb by rw [hgb];exact Nat.ne_of_lt HM.out.lt);have hcz0:w8.cell? ⟨gb,0,none⟩=some (.int .i64 0):=(blk_cell BE8.out 0).trans rfl;have hcz1:w8.cell? ⟨gb,1,none⟩=some (.int .i64 0):=(blk_cell BE8.out 1).trans rfl;have hcz2:w8.cell? ⟨gb,2,none⟩=some (.bool false):=(blk_cell BE8.out 2).trans rfl;have hfz0:=blk_frozen BE8.out 0;have hfz1:=blk_frozen BE8.out 1;have hfz2:=blk_frozen BE8.out 2;clear hb8 hbox hgb)|((with_reducible refine gate_store (t:=41) (p:=10) rfl ?_);refine store_event (t:=41) (p:=10) (v:=?vo) (w1:=(((w8.setCell ⟨gb,0,none⟩ (.int .i64 x.f0)).setCell ⟨gb,1,none⟩ (.int .i64 x.f1)).setCell ⟨gb,2,none⟩ (.bool x.f2))) ?hg ?ho ?hn ?hr ?_;(case ho=>rfl);(case hg=>rfl);(case hn=>rfl);(case hr=>exact zq9);intro w9 hw;have HM9:=am (show impl_OffsetOf.MapAt (impl_OffsetOf.dou l0 l1 kk) w1.heap.size w9 from by rw [hw];exact ((HM8.out.set NE8.out _).set NE8.out _).set NE8.out _);have HB9:=am (show Below w.heap.size w w9 from by rw [hw];exact below_set (below_set (below_set HB8.out GE8.out) GE8.out) GE8.out);have BE9:=am (show w9.heap[gb]?=some (.cells #[.int .i64 x.f0,.int .i64 x.f1,.bool x.f2] 41 (0,0)) from by rw [hw];exact blk_put (cs:=#[.int .i64 x.f0,.int .i64 x.f1,.bool false]) (blk_put (cs:=#[.int .i64 x.f0,.int .i64 0,.bool false]) (blk_put (cs:=#[.int .i64 0,.int .i64 0,.bool false]) BE8.out 0 _ rfl) 1 _ rfl) 2 _ rfl);clear hw hcz0 hcz1 hcz2 hfz0 hfz1 hfz2 hx0 hx1 hx2))
     go_loopg [33] n1 (fun gg s33 wr=>∃ (kj:Nat),kj≤n1∧n1 - kj≤gg∧s33=.int .i64 kj∧Aside0 (impl_OffsetOf.MapAt (impl_OffsetOf.dou l0 l1 kk ++ impl_OffsetOf.din x l1 kj) w1.heap.size wr)∧Aside0 (Below w.heap.size w wr)∧Aside0 (wr.heap[gb]?=some (.cells #[.int .i64 x.f0,.int .i64 x.f1,.bool x.f2] 41 (0,0))))
     case atStart=>exact ⟨0,Nat.zero_le _,by omega,rfl,⟨by rw [impl_OffsetOf.din,List.append_nil];exact HM9.out⟩,HB9,BE9⟩
     case round =>
      obtain ⟨kj,hkj,hgj,rfl,HMj,HBj,HEj⟩:=hrel
      by_cases hlt:kj < n1
      ·have hltz:(kj:Int) < (n1:Int):=by omega
       obtain ⟨ad2,e0,hy0,hy1,hy2⟩:=at_T41 HR1.out (kj:Int) (by omega) (by omega);cases e0;simp only [Int.toNat_natCast] at hy0 hy1 hy2;replace hy0:=(HBj.out.cell (World.block_lt_of_cell? w _ hy0)).trans hy0;replace hy1:=(HBj.out.cell (World.block_lt_of_cell? w _ hy1)).trans hy1;replace hy2:=(HBj.out.cell (World.block_lt_of_cell? w _ hy2)).trans hy2;have IY:=impl_OffsetOf.inb_at HI1.out (i:=(kj:Int)) (by omega) (by rw [Hn1.out];exact hltz);have HSj:Aside0 (impl_OffsetOf.din x l1 (kj + 1)=impl_OffsetOf.din x l1 kj ++ impl_OffsetOf.dif x (rd_T41 l1 (kj:Int))):=⟨rfl⟩;obtain ⟨y,hy⟩:∃ y,rd_T41 l1 (kj:Int)=y:=⟨_,rfl⟩;rw [hy] at hy0 hy1 hy2 IY HSj;clear hy
       have HAG:Aside0 (∀ W,Calls Tryz.prog 46 #[.agg #[.int .i64 x.f0,.int .i64 x.f1,.bool x.f2],.agg #[.int .i64 y.f0,.int .i64 y.f1,.bool y.f2]] W fun e w'=>e=.returned (.bool (decide (x.f1=y.f1∧x.f2=y.f2)))∧Below W.heap.size W w'):=⟨fun W=>impl_Entry_agree.calls x.f0 x.f1 x.f2 y.f0 y.f1 y.f2 _ W (by
        unfold impl_Entry_agree.f
        by_cases h1:x.f1=y.f1
        ·rw [if_pos h1];simp only [h1,true_and];cases x.f2 <;> cases y.f2 <;> rfl
        ·rw [if_neg h1];simp only [h1,false_and,decide_false])⟩
       by_cases hag:x.f1=y.f1∧x.f2=y.f2
       ·rw [decide_eq_true hag] at HAG;have HSk:Aside0 (impl_OffsetOf.din x l1 (kj + 1)=impl_OffsetOf.din x l1 kj ++ [x.f0 - y.f0]):=⟨by rw [HSj.out,impl_OffsetOf.dif,if_pos hag]⟩
        have HLN:Aside0 ((impl_OffsetOf.dou l0 l1 kk ++ impl_OffsetOf.din x l1 kj).length≤10000):=⟨by
         have q1:=HDL.out kk;have q2:=HDI.out x kj;rw [List.length_append]
         omega⟩
        have HW:Aside0 (IntKind.i64.wrap (x.f0 - y.f0)=x.f0 - y.f0):=⟨IntWalk.i64_in _ (by omega)⟩;have HWF:Aside0 ((Lit.int .i64 (x.f0 - y.f0)).wf=true):=⟨impl_OffsetOf.wf (by omega) (by omega)⟩;have hcb:=impl_OffsetOf.cnt_le (impl_OffsetOf.dou l0 l1 kk ++ impl_OffsetOf.din x l1 kj) (x.f0 - y.f0);obtain ⟨c,hc⟩:∃ c,impl_OffsetOf.cnt (impl_OffsetOf.dou l0 l1 kk ++ impl_OffsetOf.din x l1 kj) (x.f0 - y.f0)=c:=⟨_,rfl⟩;rw [hc] at hcb;have HC:=am hc;have HCB:Aside0 (0≤c∧c≤10000):=⟨⟨hcb.1,by have:=HLN.out;omega⟩⟩;have HW1:Aside0 (IntKind.i64.wrap (c + 1)=c + 1):=⟨IntWalk.i64_in _ (by have:=HCB.out;omega)⟩;have NE9:=NE8;clear hag HSj hc hcb IX IY
        go_wp2_with (first|((with_reducible refine gate_dst (N:=12) rfl ?_);refine box_event ?hg (N:=12) ?hd (cs:=#[.int .i64 0,.int .i64 0,.bool false]) (t:=41) ?hr ?_;(case hd=>rfl);(case hg=>rfl);(case hr=>exact zq9);intro gc hgc w18 hbox hb8;have HM18:=am (HMj.out.kept hb8);have HB18:=am (below_step HBj.out hb8);have BF8:=am hbox;have BE18:=am (blk_below HEj.out hb8);have GF8:=am (show w.heap.size≤gc by rw [hgc];exact HBj.out.size);have NE18:=am (show w1.heap.size≠gc by rw [hgc];exact Nat.ne_of_lt HMj.out.lt);have NG18:=am (show gb≠gc by rw [hgc];exact Nat.ne_of_lt (blk_lt HEj.out));have hcz0:w18.cell? ⟨gc,0,none⟩=some (.int .i64 0):=(blk_cell BF8.out 0).trans rfl;have hcz1:w18.cell? ⟨gc,1,none⟩=some (.int .i64 0):=(blk_cell BF8.out 1).trans rfl;have hcz2:w18.cell? ⟨gc,2,none⟩=some (.bool false):=(blk_cell BF8.out 2).trans rfl;have hfz0:=blk_frozen BF8.out 0;have hfz1:=blk_frozen BF8.out 1;have hfz2:=blk_frozen BF8.out 2;clear hb8 hbox hgc)|((with_reducible refine gate_store (t:=41) (p:=12) rfl ?_);refine store_event (t:=41) (p:=12) (v:=?vo2) (w1:=(((w18.setCell ⟨gc,0,none⟩ (.int .i64 y.f0)).setCell ⟨gc,1,none⟩ (.int .i64 y.f1)).setCell ⟨gc,2,none⟩ (.bool y.f2))) ?hg ?ho ?hn ?hr ?_;(case ho=>rfl);(case hg=>rfl);(case hn=>rfl);(case hr=>exact zq9);intro w19 hw;have HM19:=am (show impl_OffsetOf.MapAt (impl_OffsetOf.dou l0 l1 kk ++ impl_OffsetOf.din x l1 kj) w1.heap.size w19 from by rw [hw];exact ((HM18.out.set NE18.out _).set NE18.out _).set NE18.out _);have HB19:=am (show Below w.heap.size w w19 from by rw [hw];exact below_set (below_set (below_set HB18.out GF8.out) GF8.out) GF8.out);have BE19:=am (show w19.heap[gb]?=some (.cells #[.int .i64 x.f0,.int .i64 x.f1,.bool x.f2] 41 (0,0)) from by rw [hw];exact blk_far (blk_far (blk_far BE18.out NG18.out _) NG18.out _) NG18.out _);have BF9:=am (show w19.heap[gc]?=some (.cells #[.int .i64 y.f0,.int .i64 y.f1,.bool y.f2] 41 (0,0)) from by rw [hw];exact blk_put (cs:=#[.int .i64 y.f0,.int .i64 y.f1,.bool false]) (blk_put (cs:=#[.int .i64 y.f0,.int .i64 0,.bool false]) (blk_put (cs:=#[.int .i64 0,.int .i64 0,.bool false]) BF8.out 0 _ rfl) 1 _ rfl) 2 _ rfl);clear hw hcz0 hcz1 hcz2 hfz0 hfz1 hfz2 hy0 hy1 hy2;have hd0:w19.cell? ⟨gb,0,none⟩=some (.int .i64 x.f0):=(blk_cell BE19.out 0).trans rfl;have hd1:w19.cell? ⟨gb,1,none⟩=some (.int .i64 x.f1):=(blk_cell BE19.out 1).trans rfl;have hd2:w19.cell? ⟨gb,2,none⟩=some (.bool x.f2):=(blk_cell BE19.out 2).trans rfl;have hc0:w19.cell? ⟨gc,0,none⟩=some (.int .i64 y.f0):=(blk_cell BF9.out 0).trans rfl;have hc1:w19.cell? ⟨gc,1,none⟩=some (.int .i64 y.f1):=(blk_cell BF9.out 1).trans rfl;have hc2:w19.cell? ⟨gc,2,none⟩=some (.bool y.f2):=(blk_cell BF9.out 2).trans rfl)|(go_at_call 46;refine (HAG.out _).mono ?_;rintro e w20 ⟨rfl,hb2⟩;have HM20:=am (HM19.out.kept hb2);have HB20:=am (below_step HB19.out hb2);have BE20:=am (blk_below BE19.out hb2);have BF20:=am (blk_below BF9.out hb2);clear hb2 hd0 hd1 hd2 hc0 hc1 hc2;have hd0:w20.cell? ⟨gb,0,none⟩=some (.int .i64 x.f0):=(blk_cell BE20.out 0).trans rfl;have hc0:w20.cell? ⟨gc,0,none⟩=some (.int .i64 y.f0):=(blk_cell BF20.out 0).trans rfl;have hw64:=HW.out;obtain ⟨D,hown,hat,hhas⟩:=HM20.out;have HOWN:=am hown;have HAT:=am hat;have HHAS:=am hhas;clear hown hat hhas)|(at_lookup;refine wpList_lookup_own_int _ rfl _ _ 79 rfl 2 2 .i64 (Go.Maps.int_keyed Tryz.underlying2) Tryz.underlying79 Tryz.underlying2 (impl_OffsetOf.zeroE _) w1.heap.size _ _ rfl HOWN.out _ _ rfl (Go.Maps.keyOf_int_mk Tryz.underlying2 HWF.out) ?_;intro cc hatc hwc;obtain rfl:c=cc:=(by have h_:=(HAT.out (x.f0 - y.f0)).symm.trans hatc;rw [HC.out] at h_;injection h_ with h_;injection h_ with _ h_);clear hatc hwc;have hw1:=HW1.out)|(at_mapUpdate;refine wpList_mapUpdate_own _ rfl _ _ _ 79 rfl 2 2 (Go.Maps.int_keyed Tryz.underlying2) Tryz.underlying79 _ w1.heap.size _ _ rfl HOWN.out (by have:=HLN.out;unfold maxLen;omega) _ _ _ rfl rfl (Go.Maps.keyOf_int_mk Tryz.underlying2 HWF.out) _ [] (plainElem_int Tryz.underlying2 (impl_OffsetOf.wf (by have:=HCB.out;omega) (by have:=HCB.out;omega))) ?_;intro w21 hown1 hgrow1;have HM21:=am (impl_OffsetOf.MapAt.put (L:=impl_OffsetOf.dou l0 l1 kk ++ impl_OffsetOf.din x l1 kj) (k:=x.f0 - y.f0) HOWN.out.isMap HAT.out HHAS.out (by rw [HC.out];exact hown1));have HB21:=am (HB20.out.grown hgrow1 HB20.out.size (fun j hj=>by cases hj;exact HB1.out.size));have BE21:=am (blk_grown BE20.out hgrow1 (by simp only [ne_eq,Option.some.injEq];exact fun h_=>NE9.out h_.symm));clear hown1 hgrow1))
        go_roundg (n1 - (kj + 1))
        case measure=>omega
        case rel=>exact ⟨kj + 1,by omega,by omega,by go_num,⟨by rw [HSk.out,← List.append_assoc];exact HM21.out⟩,HB21,BE21⟩
       ·rw [decide_eq_false hag] at HAG;have HSk:Aside0 (impl_OffsetOf.din x l1 (kj + 1)=impl_OffsetOf.din x l1 kj):=⟨by rw [HSj.out,impl_OffsetOf.dif,if_neg hag,List.append_nil]⟩;clear hag HSj
        go_wp2_with (first|((with_reducible refine gate_dst (N:=12) rfl ?_);refine box_event ?hg (N:=12) ?hd (cs:=#[.int .i64 0,.int .i64 0,.bool false]) (t:=41) ?hr ?_;(case hd=>rfl);(case hg=>rfl);(case hr=>exact zq9);intro gc hgc w18 hbox hb8;have HM18:=am (HMj.out.kept hb8);have HB18:=am (below_step HBj.out hb8);have BF8:=am hbox;have BE18:=am (blk_below HEj.out hb8);have GF8:=am (show w.heap.size≤gc by rw [hgc];exact HBj.out.size);have NE18:=am (show w1.heap.size≠gc by rw [hgc];exact Nat.ne_of_lt HMj.out.lt);have NG18:=am (show gb≠gc by rw [hgc];exact Nat.ne_of_lt (blk_lt HEj.out));have hcz0:w18.cell? ⟨gc,0,none⟩=some (.int .i64 0):=(blk_cell BF8.out 0).trans rfl;have hcz1:w18.cell? ⟨gc,1,none⟩=some (.int .i64 0):=(blk_cell BF8.out 1).trans rfl;have hcz2:w18.cell? ⟨gc,2,none⟩=some (.bool false):=(blk_cell BF8.out 2).trans rfl;have hfz0:=blk_frozen BF8.out 0;have hfz1:=blk_frozen BF8.out 1;have hfz2:=blk_frozen BF8.out 2;clear hb8 hbox hgc)|((with_reducible refine gate_store (t:=41) (p:=12) rfl ?_);refine store_event (t:=41) (p:=12) (v:=?vo2) (w1:=(((w18.setCell ⟨gc,0,none⟩ (.int .i64 y.f0)).setCell ⟨gc,1,none⟩ (.int .i64 y.f1)).setCell ⟨gc,2,none⟩ (.bool y.f2))) ?hg ?ho ?hn ?hr ?_;(case ho=>rfl);(case hg=>rfl);(case hn=>rfl);(case hr=>exact zq9);intro w19 hw;have HM19:=am (show impl_OffsetOf.MapAt (impl_OffsetOf.dou l0 l1 kk ++ impl_OffsetOf.din x l1 kj) w1.heap.size w19 from by rw [hw];exact ((HM18.out.set NE18.out _).set NE18.out _).set NE18.out _);have HB19:=am (show Below w.heap.size w w19 from by rw [hw];exact below_set (below_set (below_set HB18.out GF8.out) GF8.out) GF8.out);have BE19:=am (show w19.heap[gb]?=some (.cells #[.int .i64 x.f0,.int .i64 x.f1,.bool x.f2] 41 (0,0)) from by rw [hw];exact blk_far (blk_far (blk_far BE18.out NG18.out _) NG18.out _) NG18.out _);have BF9:=am (show w19.heap[gc]?=some (.cells #[.int .i64 y.f0,.int .i64 y.f1,.bool y.f2] 41 (0,0)) from by rw [hw];exact blk_put (cs:=#[.int .i64 y.f0,.int .i64 y.f1,.bool false]) (blk_put (cs:=#[.int .i64 y.f0,.int .i64 0,.bool false]) (blk_put (cs:=#[.int .i64 0,.int .i64 0,.bool false]) BF8.out 0 _ rfl) 1 _ rfl) 2 _ rfl);clear hw hcz0 hcz1 hcz2 hfz0 hfz1 hfz2 hy0 hy1 hy2;have hd0:w19.cell? ⟨gb,0,none⟩=some (.int .i64 x.f0):=(blk_cell BE19.out 0).trans rfl;have hd1:w19.cell? ⟨gb,1,none⟩=some (.int .i64 x.f1):=(blk_cell BE19.out 1).trans rfl;have hd2:w19.cell? ⟨gb,2,none⟩=some (.bool x.f2):=(blk_cell BE19.out 2).trans rfl;have hc0:w19.cell? ⟨gc,0,none⟩=some (.int .i64 y.f0):=(blk_cell BF9.out 0).trans rfl;have hc1:w19.cell? ⟨gc,1,none⟩=some (.int .i64 y.f1):=(blk_cell BF9.out 1).trans rfl;have hc2:w19.cell? ⟨gc,2,none⟩=some (.bool y.f2):=(blk_cell BF9.out 2).trans rfl)|(go_at_call 46;refine (HAG.out _).mono ?_;rintro e w20 ⟨rfl,hb2⟩;have HM20:=am (HM19.out.kept hb2);have HB20:=am (below_step HB19.out hb2);have BE20:=am (blk_below BE19.out hb2);have BF20:=am (blk_below BF9.out hb2);clear hb2 hd0 hd1 hd2 hc0 hc1 hc2))
        go_roundg (n1 - (kj + 1))
        case measure=>omega
        case rel=>exact ⟨kj + 1,by omega,by omega,by go_num,⟨by rw [HSk.out];exact HM20.out⟩,HB20,BE20⟩
      ·have hltz:¬ (kj:Int) < (n1:Int):=by omega
       have:kj=n1:=by omega
       subst this
       go_wp2
       go_roundg (n0 - (kk + 1))
       case measure=>omega
       case rel=>exact ⟨kk + 1,by omega,by omega,by go_num,⟨by rw [HS.out];exact HMj.out⟩,HBj⟩
    ·have hltz:¬ (kk:Int) < (n0:Int):=by omega
     have:kk=n0:=by omega
     subst this;obtain ⟨D,hown,hat,hhas⟩:=HM.out;have HAT:=am hat;have HHAS:=am hhas;have HLN:Aside0 ((impl_OffsetOf.dou l0 l1 kk).length≤10000):=⟨by have q1:=HDL.out kk;omega⟩;have HIX:Aside0 (∀ s∈impl_OffsetOf.dou l0 l1 kk,-100000≤s∧s≤100000):=⟨impl_OffsetOf.dou_in HI0.out HI1.out (by rw [Hn0.out];exact Nat.le_refl _)⟩;obtain ⟨L,hL⟩:∃ L,impl_OffsetOf.dou l0 l1 kk=L:=⟨_,rfl⟩;rw [hL] at hown HAT HHAS HLN HH HIX;have HOWN:=am hown;clear hL hat hhas hown
     go_wp2_with (first|(at_range;refine wpList_range_own _ rfl _ 79 rfl 2 2 (Go.Maps.int_keyed Tryz.underlying2) Tryz.underlying79 _ w1.heap.size _ D rfl HOWN.out ?_;intro w30 hrg0 hg0 hs0))
     have HRG0:=am hrg0;have HB30:=am (HB.out.grown hg0 HB.out.size (fun j hj=>by cases hj));have GR30:=am (show w.heap.size≤wr.heap.size from HB.out.size);generalize wr.heap.size=rr at *;clear hrg0 hg0 hs0
     go_loopw [13,14] (fun s13 s14 wr'=>∃ (left:Lit→Bool) (cnt_:Nat) (b m:Int),wr'.ranges Tryz.prog 2 (plainElem Tryz.prog 2) w1.heap.size rr L.length D left cnt_∧s13=.int .i64 b∧s14=.int .i64 m∧Aside0 (impl_OffsetOf.IsBest (impl_OffsetOf.cnt L) (fun s=>s∈L∧left (.int .i64 s)=false) b m)∧Aside0 (Below w.heap.size w wr')) (fun _ _ wr'=>wr'.rangeLeft w1.heap.size rr)
     case atStart=>exact ⟨_,_,0,0,HRG0.out,rfl,rfl,⟨impl_OffsetOf.IsBest.zero _ (fun s h_=>by have:=(HHAS.out s).2 h_.1;rw [h_.2] at this;cases this)⟩,HB30⟩
     case round =>
      obtain ⟨left,cnt_,b,m,hrg,rfl,rfl,HBST,HBr⟩:=hrel;have HRG:=am hrg;clear hrg HB HB30 HRG0
      go_wp2_with (first|(at_next;refine wpList_next_ranges_ii _ rfl _ rfl 2 2 .i64 .i64 (Go.Maps.int_keyed Tryz.underlying2) Tryz.underlying2 Tryz.underlying2 w1.heap.size rr L.length _ _ _ rfl HRG.out ?_ ?_))
      ·intro _ hl0;have hres:=impl_OffsetOf.res_of (HBST.out.same (K':=fun s=>s∈L) (fun s=>by simp [hl0]));rw [HH.out] at hres;clear hl0
       by_cases hm0:m=0
       ·subst hm0;rw [if_pos rfl] at hres;simp only [Prod.mk.injEq] at hres;obtain ⟨rfl,rfl,rfl⟩:=hres
        go_wp2
        go_ret3
        exact ⟨rfl,HBr.out⟩
       ·rw [if_neg hm0] at hres;simp only [Prod.mk.injEq] at hres;have hmb:(m == 0)=false:=beq_eq_false_iff_ne.mpr hm0;clear hm0;obtain ⟨rfl,rfl,rfl⟩:=hres
        go_wp2
        go_ret3
        exact ⟨rfl,HBr.out⟩
      ·intro x c w31 cnt1 hwx hwc hlx hat1 hrg1 hlt hg1 hs1 hen;have hxL:x∈L:=(HHAS.out x).1 (Go.Maps.has_true_of_atKey hat1)
       have hcc:c=impl_OffsetOf.cnt L x:=by
        have h_:=(HAT.out x).symm.trans (hat1 (.lit (.int .i64 0)))
        injection h_ with h_
        injection h_ with _ h_
        exact h_.symm
       have hxb:=HIX.out x hxL
       have hbb:-100000≤b∧b≤100000:=by
        rcases HBST.out with ⟨rfl,_⟩|⟨hk,_⟩
        ·omega
        ·exact HIX.out b hk.1
       have hab:(if b < -b then -b else b)=impl_OffsetOf.ab b:=by unfold impl_OffsetOf.ab;split <;> split <;> omega
       have hax:(if x < -x then -x else x)=impl_OffsetOf.ab x:=by unfold impl_OffsetOf.ab;split <;> split <;> omega
       have hwb:IntKind.i64.wrap (-b)=-b:=IntWalk.i64_in _ (by omega);have hwx1:IntKind.i64.wrap (-x)=-x:=IntWalk.i64_in _ (by omega)
       obtain ⟨n1,hn1⟩:∃ n1,n1=if impl_OffsetOf.ab b < impl_OffsetOf.ab x then -1 else if impl_OffsetOf.ab b > impl_OffsetOf.ab x then 1 else (0:Int):=⟨_,rfl⟩
       obtain ⟨n2,hn2⟩:∃ n2,n2=if x < b then -1 else if x > b then 1 else (0:Int):=⟨_,rfl⟩
       obtain ⟨nr,hnr⟩:∃ nr,nr=if n1=0 then n2 else n1:=⟨_,rfl⟩
       have HNR:Aside0 (impl_OffsetOf.bet m b c x=(decide (m < c) || (decide (m=c) && decide (nr > 0)))):=⟨by rw [hnr,impl_OffsetOf.near_pos hn1 hn2];rfl⟩;have CMP1:Aside0 (∀ W,Calls Tryz.prog 48 #[.int .i64 (impl_OffsetOf.ab b),.int .i64 (impl_OffsetOf.ab x)] W fun e w'=>e=.returned (.int .i64 n1)∧Drawn0 W w'):=⟨fun W=>cmp_Compare_int64.calls _ _ _ W (by rw [hn1];exact impl_OffsetOf.cmp_eq _ _)⟩;have CMP2:Aside0 (∀ W,Calls Tryz.prog 48 #[.int .i64 x,.int .i64 b] W fun e w'=>e=.returned (.int .i64 n2)∧Drawn0 W w'):=⟨fun W=>cmp_Compare_int64.calls _ _ _ W (by rw [hn2];exact impl_OffsetOf.cmp_eq _ _)⟩;have ORF:Aside0 (cmp_Or_int.f 9 [n1,n2]=some nr):=⟨by rw [hnr];exact impl_OffsetOf.or_eq _ _⟩;have HRG1:=am hrg1;have HLT:=am hlt;have HEN:=am hen;have HXL:=am hxL;have HCC:=am hcc;have HLX:=am hlx;have HB31:=am (HBr.out.grown hg1 HBr.out.size (fun j hj=>by cases hj;exact GR30.out));have HC:=am (Below.refl w31.heap.size w31);generalize hp:impl_OffsetOf.ab b=p at *;generalize hq:impl_OffsetOf.ab x=q at *;clear hrg1 hlt hxL hcc hlx hg1 hs1 hat1 hxb hbb hn1 hn2 hnr hp hq hwx hwc;have HRX:Aside0 (∀ W,Below w31.heap.size w31 W→W.ranges Tryz.prog 2 (plainElem Tryz.prog 2) w1.heap.size rr L.length D (fun z=>left z && !z.sameKey (.int .i64 x)) cnt1):=⟨fun W hb_=>HRG1.out.kept (grown_of_below hb_ none) (by simp) (by simp)⟩
       have HBX:Aside0 (impl_OffsetOf.IsBest (impl_OffsetOf.cnt L) (fun s=>s∈L∧(left (.int .i64 s) && !Lit.sameKey (.int .i64 s) (.int .i64 x))=false) (if impl_OffsetOf.bet m b c x=true then x else b) (if impl_OffsetOf.bet m b c x=true then c else m)):=⟨by
        rw [HCC.out]
        exact HBST.out.step (fun s=>impl_OffsetOf.left_step HXL.out) (impl_OffsetOf.cnt_pos.2 HXL.out)⟩
       by_cases hc1:m < c
       ·rw [HNR.out,decide_eq_true hc1] at HBX;simp only [Bool.true_or,if_true] at HBX;have hc1b:decide (c > m)=true:=decide_eq_true hc1;clear hc1
        go_wp2_with (first|(go_at_call 48;(with_reducible refine (CMP1.out _).mono ?_);rintro e w_ ⟨rfl,⟨nd,rfl⟩⟩)|(go_at_call 48;(with_reducible refine (CMP2.out _).mono ?_);rintro e w_ ⟨rfl,⟨nd,rfl⟩⟩)|((with_reducible refine gate_dst (N:=69) rfl ?_);refine Kd.R_lit (Kd.int .i64) _ 3 ?hg69 (N:=69) ?hd69 (xs:=([n1,n2]:List Int)) (inner:=[.int .i64 n1,.int .i64 n2]) (ok:=fun _=>True) (okp:=fun _=>True) ?hr69 ?hp69 (fun _ hk=>hk) trivial (Below.refl _ _) (Nat.le_refl _) (by simp) ?_;(case hd69=>rfl);(case hg69=>rfl);(case hr69=>exact zq9);(case hp69=>exact (Reps.one (show Kd.M (Kd.int .i64) _ _ _ n1 [.int .i64 n1] from rfl) (Reps.one (show Kd.M (Kd.int .i64) _ _ _ n2 [.int .i64 n2] from rfl) (Reps.none _ _))));intro v105 w32 ho12 hb hg_ hnew_;clear hg_ hnew_;have HO:=am ho12;have n0_:=am (below_step zq22 hb);clear HC;have HC:=n0_;have n0_:=am (below_step zq39 hb);clear HB31;have HB31:=n0_;clear n0_ hb ho12;obtain ⟨Ao13,co13,eo13⟩:=Kd.R_slice HO.out;subst eo13)|(go_at_call 47;refine (cmp_Or_int.calls 9 _ _ [n1,n2] nr _ ?side1 ?side2 ORF.out).mono ?_;(case side1=>exact zq26);(case side2=>exact (Kd.R_reads' HO.out).2.1);rintro e w_ ⟨rfl,⟨nd,rfl⟩⟩))
        go_roundw
        case rel=>exact ⟨_,cnt1,x,c,HRX.out _ zq22,rfl,rfl,HBX,⟨by repeat (first|exact HB31.out|apply pw_below_drewN|apply below_drew1)⟩⟩
        case measure=>rw [(HRX.out _ zq22).left_eq,HRG.out.left_eq];exact HLT.out
       ·rw [HNR.out,decide_eq_false hc1] at HBX;simp only [Bool.false_or] at HBX;have hc1b:decide (c > m)=false:=decide_eq_false hc1;clear hc1
        by_cases hc2:c=m
        ·rw [decide_eq_true hc2.symm] at HBX;simp only [Bool.true_and,decide_eq_true_eq] at HBX;have hc2b:(c == m)=true:=beq_iff_eq.mpr hc2;clear hc2
         by_cases hc3:nr > 0
         ·rw [if_pos hc3,if_pos hc3] at HBX;have hc3b:decide (nr > 0)=true:=decide_eq_true hc3;have hc3c:decide (0 < nr)=true:=decide_eq_true hc3;clear hc3
          go_wp2_with (first|(go_at_call 48;(with_reducible refine (CMP1.out _).mono ?_);rintro e w_ ⟨rfl,⟨nd,rfl⟩⟩)|(go_at_call 48;(with_reducible refine (CMP2.out _).mono ?_);rintro e w_ ⟨rfl,⟨nd,rfl⟩⟩)|((with_reducible refine gate_dst (N:=69) rfl ?_);refine Kd.R_lit (Kd.int .i64) _ 3 ?hg69 (N:=69) ?hd69 (xs:=([n1,n2]:List Int)) (inner:=[.int .i64 n1,.int .i64 n2]) (ok:=fun _=>True) (okp:=fun _=>True) ?hr69 ?hp69 (fun _ hk=>hk) trivial (Below.refl _ _) (Nat.le_refl _) (by simp) ?_;(case hd69=>rfl);(case hg69=>rfl);(case hr69=>exact zq9);(case hp69=>exact (Reps.one (show Kd.M (Kd.int .i64) _ _ _ n1 [.int .i64 n1] from rfl) (Reps.one (show Kd.M (Kd.int .i64) _ _ _ n2 [.int .i64 n2] from rfl) (Reps.none _ _))));intro v105 w32 ho12 hb hg_ hnew_;clear hg_ hnew_;have HO:=am ho12;have n0_:=am (below_step zq22 hb);clear HC;have HC:=n0_;have n0_:=am (below_step zq39 hb);clear HB31;have HB31:=n0_;clear n0_ hb ho12;obtain ⟨Ao13,co13,eo13⟩:=Kd.R_slice HO.out;subst eo13)|(go_at_call 47;refine (cmp_Or_int.calls 9 _ _ [n1,n2] nr _ ?side1 ?side2 ORF.out).mono ?_;(case side1=>exact zq26);(case side2=>exact (Kd.R_reads' HO.out).2.1);rintro e w_ ⟨rfl,⟨nd,rfl⟩⟩))
          go_roundw
          case rel=>exact ⟨_,cnt1,x,c,HRX.out _ zq22,rfl,rfl,HBX,⟨by repeat (first|exact HB31.out|apply pw_below_drewN|apply below_drew1)⟩⟩
          case measure=>rw [(HRX.out _ zq22).left_eq,HRG.out.left_eq];exact HLT.out
         ·rw [if_neg hc3,if_neg hc3] at HBX;have hc3b:decide (nr > 0)=false:=decide_eq_false hc3;have hc3c:decide (0 < nr)=false:=decide_eq_false hc3;clear hc3
          go_wp2_with (first|(go_at_call 48;(with_reducible refine (CMP1.out _).mono ?_);rintro e w_ ⟨rfl,⟨nd,rfl⟩⟩)|(go_at_call 48;(with_reducible refine (CMP2.out _).mono ?_);rintro e w_ ⟨rfl,⟨nd,rfl⟩⟩)|((with_reducible refine gate_dst (N:=69) rfl ?_);refine Kd.R_lit (Kd.int .i64) _ 3 ?hg69 (N:=69) ?hd69 (xs:=([n1,n2]:List Int)) (inner:=[.int .i64 n1,.int .i64 n2]) (ok:=fun _=>True) (okp:=fun _=>True) ?hr69 ?hp69 (fun _ hk=>hk) trivial (Below.refl _ _) (Nat.le_refl _) (by simp) ?_;(case hd69=>rfl);(case hg69=>rfl);(case hr69=>exact zq9);(case hp69=>exact (Reps.one (show Kd.M (Kd.int .i64) _ _ _ n1 [.int .i64 n1] from rfl) (Reps.one (show Kd.M (Kd.int .i64) _ _ _ n2 [.int .i64 n2] from rfl) (Reps.none _ _))));intro v105 w32 ho12 hb hg_ hnew_;clear hg_ hnew_;have HO:=am ho12;have n0_:=am (below_step zq22 hb);clear HC;have HC:=n0_;have n0_:=am (below_step zq39 hb);clear HB31;have HB31:=n0_;clear n0_ hb ho12;obtain ⟨Ao13,co13,eo13⟩:=Kd.R_slice HO.out;subst eo13)|(go_at_call 47;refine (cmp_Or_int.calls 9 _ _ [n1,n2] nr _ ?side1 ?side2 ORF.out).mono ?_;(case side1=>exact zq26);(case side2=>exact (Kd.R_reads' HO.out).2.1);rintro e w_ ⟨rfl,⟨nd,rfl⟩⟩))
          go_roundw
          case rel=>exact ⟨_,cnt1,b,m,HRX.out _ zq22,rfl,rfl,HBX,⟨by repeat (first|exact HB31.out|apply pw_below_drewN|apply below_drew1)⟩⟩
          case measure=>rw [(HRX.out _ zq22).left_eq,HRG.out.left_eq];exact HLT.out
        ·rw [decide_eq_false (fun h_=>hc2 h_.symm)] at HBX;simp only [Bool.false_and,Bool.false_eq_true,if_false] at HBX;have hc2b:(c == m)=false:=beq_eq_false_iff_ne.mpr hc2;clear hc2
         go_wp2_with (first|(go_at_call 48;(with_reducible refine (CMP1.out _).mono ?_);rintro e w_ ⟨rfl,⟨nd,rfl⟩⟩)|(go_at_call 48;(with_reducible refine (CMP2.out _).mono ?_);rintro e w_ ⟨rfl,⟨nd,rfl⟩⟩)|((with_reducible refine gate_dst (N:=69) rfl ?_);refine Kd.R_lit (Kd.int .i64) _ 3 ?hg69 (N:=69) ?hd69 (xs:=([n1,n2]:List Int)) (inner:=[.int .i64 n1,.int .i64 n2]) (ok:=fun _=>True) (okp:=fun _=>True) ?hr69 ?hp69 (fun _ hk=>hk) trivial (Below.refl _ _) (Nat.le_refl _) (by simp) ?_;(case hd69=>rfl);(case hg69=>rfl);(case hr69=>exact zq9);(case hp69=>exact (Reps.one (show Kd.M (Kd.int .i64) _ _ _ n1 [.int .i64 n1] from rfl) (Reps.one (show Kd.M (Kd.int .i64) _ _ _ n2 [.int .i64 n2] from rfl) (Reps.none _ _))));intro v105 w32 ho12 hb hg_ hnew_;clear hg_ hnew_;have HO:=am ho12;have n0_:=am (below_step zq22 hb);clear HC;have HC:=n0_;have n0_:=am (below_step zq39 hb);clear HB31;have HB31:=n0_;clear n0_ hb ho12;obtain ⟨Ao13,co13,eo13⟩:=Kd.R_slice HO.out;subst eo13)|(go_at_call 47;refine (cmp_Or_int.calls 9 _ _ [n1,n2] nr _ ?side1 ?side2 ORF.out).mono ?_;(case side1=>exact zq26);(case side2=>exact (Kd.R_reads' HO.out).2.1);rintro e w_ ⟨rfl,⟨nd,rfl⟩⟩))
         go_roundw
         case rel=>exact ⟨_,cnt1,b,m,HRX.out _ zq22,rfl,rfl,HBX,⟨by repeat (first|exact HB31.out|apply pw_below_drewN|apply below_drew1)⟩⟩
         case measure=>rw [(HRX.out _ zq22).left_eq,HRG.out.left_eq];exact HLT.out
  ·rw [if_neg hq] at h;cases h
 ·rw [if_pos hv0] at h;have h:=Option.some.inj h;simp only [Prod.mk.injEq] at h;obtain ⟨rfl,rfl,rfl⟩:=h;have hvb:(v != 0)=true:=bne_iff_ne.mpr hv0
  go_enter Tryz.func20,Tryz.ntmps20
  go_wp2_with (go_at_call 45;refine HVC.out.mono ?_;rintro e w1 ⟨rfl,hb1⟩;have HB1:=am hb1;clear hb1)
  go_ret3
  exact ⟨rfl,HB1.out⟩
def impl_number.is (a0:ByteArray) (a1:Int) (v:Int):Bool:=decide (Lib.itoa v=a0.data.toList) && (decide (0≤v) && decide (v≤a1))
def impl_number.f (a0:ByteArray) (a1:Int):Option (Int × Bool):=if a0.size≤281474976710656 then (match Lib.parseIntB 64 a0.data.toList with
 | .ok v=>if impl_number.is a0 a1 v=true then some (v,true) else some (0,false)
 | _=>some (0,false)) else none
set_option maxHeartbeats 4000000 in
set_option maxRecDepth 100000 in
theorem impl_number.calls (a0:ByteArray) (a1:Int) (r1:Int) (r2:Bool) (w:World) (henv:Env w) (h:impl_number.f a0 a1=some (r1,r2)) :
  Calls Tryz.prog 27 #[.string a0,.int .i64 a1] w fun e w'=>e=.returned (.tuple #[.int .i64 r1,.bool r2])∧Below w.heap.size w w':=by
 unfold impl_number.f at h
 split at h
 ·rename_i hsz
  obtain ⟨ts,ps,hs⟩:=(Env_here henv).syn;obtain ⟨tr,pr,hr⟩:=(Env_here henv).rng;have HE:=am henv
  cases hp:Lib.parseIntB 64 a0.data.toList with
  | «syntax» =>
   rw [hp] at h;simp only [Option.some.injEq,Prod.mk.injEq] at h;obtain ⟨rfl,rfl⟩:=h;have c:=Tryz.strconv_ParseInt_10_at64_syntax_var a0 hsz hp ts ps w hs;clear hs hr henv hp hsz
   go_enter Tryz.func27,Tryz.ntmps27
   go_wp2_with (go_at_call 57;refine c.mono ?_;rintro e w1 ⟨n1,rfl,_,_,hb⟩;have HB:=am hb;clear hb)
   go_ret2
   exact ⟨rfl,HB.out⟩
  | range =>
   rw [hp] at h;simp only [Option.some.injEq,Prod.mk.injEq] at h;obtain ⟨rfl,rfl⟩:=h;have c:=Tryz.strconv_ParseInt_10_at64_range_var a0 hsz hp tr pr w hr;clear hs hr henv hp hsz
   go_enter Tryz.func27,Tryz.ntmps27
   go_wp2_with (go_at_call 57;refine c.mono ?_;rintro e w1 ⟨n1,rfl,_,_,hb⟩;have HB:=am hb;clear hb)
   go_ret2
   exact ⟨rfl,HB.out⟩
  | ok v =>
   rw [hp] at h;simp only at h
   have hbd:-9223372036854775808≤v∧v≤9223372036854775807:=by
    have:=Lib.parseIntB_bounds hp;rw [show ((2 ^ (64 - 1):Nat):Int)=9223372036854775808 from by decide] at this
    omega
   have c:=Tryz.strconv_ParseInt_10_at64_ok a0 (by omega) v hp w
   have hdec:∀ W:World,Below w.heap.size w W→Calls Tryz.prog 29 #[.int .i64 v] W fun e w'=>e=.returned (.string ⟨(Lib.itoa v).toArray⟩)∧Below W.heap.size W w':=fun W hb=>impl_decimal.calls v _ W (Env_on HE.out hb) (by unfold impl_decimal.f;rw [if_pos (by omega),if_pos (by omega)])
   have hwi:=impl_within.calls v 0 a1 (decide (0≤v) && decide (v≤a1))
   have hwf:impl_within.f v 0 a1=some (decide (0≤v) && decide (v≤a1)):=by
    unfold impl_within.f
    split <;> simp [*]
   have HD:=am hdec;have HW:=am (fun W=>hwi W hwf);clear hs hr henv hp hsz hdec hwi hwf
   go_enter Tryz.func27,Tryz.ntmps27
   go_wp2_with (first|(go_at_call 57;refine c.mono ?_;rintro e w1 ⟨rfl,hw1⟩;have HB:=am (show Below w.heap.size w w1 from hw1.elim (fun e=>e ▸ Below.refl _ _) (fun ⟨t,e⟩=>e ▸ Lib.bytesWorld_below _ _ _));clear hw1)|(go_at_call 29;refine (HD.out _ HB.out).mono ?_;rintro e w2 ⟨rfl,hb2⟩;have HB2:=am (below_step HB.out hb2);clear hb2)|(go_at_call 32;refine (HW.out _).mono ?_;rintro e w3 ⟨rfl,hd⟩))
   all_goals
    go_ret2
    clear c HD HW HE;refine ⟨?_,by first|exact HB2.out|exact below_step HB2.out hd.below⟩
    unfold impl_number.is at h
    clear HB HB2
    by_cases e0:Lib.itoa v=a0.data.toList <;> by_cases e1:0≤v <;> by_cases e2:v≤a1 <;> simp_all [ByteArray.toList_eq] <;> omega
 ·cases h
def strings_Split.f (a0 a1:ByteArray):Option (List ByteArray):=if a0.size < 4294967281 then (if 1≤a1.size then some (Lib.splitB a1 0 (Lib.countB a0 a1) a0) else none) else none
theorem strings_Split.calls (a0:ByteArray) (a1:ByteArray) (r:List ByteArray) (w:World) (henv:Env w) (h:strings_Split.f a0 a1=some r) :
  Calls Tryz.prog 25 #[.string a0,.string a1] w fun e w'=>∃ v0_:Value,e=.returned (v0_)∧Kd.R Kd.string 9 w' w.heap.size (fun _=>True) v0_ r∧Below w.heap.size w w':=by
 unfold strings_Split.f at h
 split at h
 ·split at h
  ·rename_i h0 h1
   obtain rfl:=Option.some.inj h;obtain ⟨m,hm⟩:=(Env_here henv).maxlen;have hlen:=Lib.splitB_all a1 h1 0 _ a0 rfl;have hle:=Lib.countB_le a1 h1 a0.size a0 (Nat.le_refl _);refine (Tryz.strings_Split a0 a1 m w h0 hm h1).mono ?_
   rintro e w' ⟨rfl,rfl⟩
   refine ⟨_,rfl,Kd.R_of_own (enc:=Value.string) ⟨?_,.inr ⟨w.heap.size,Lib.countB a0 a1 + 1,_,by rw [hlen],Nat.le_refl _,heap_alloc_new w _,?_,?_,?_,?_⟩⟩ (fun _ _=>trivial),below_alloc (Below.refl _ _) _⟩
   ·simp [encs]
   ·omega
   ·unfold maxLen
    omega
   ·simp [hlen]
   ·rw [Nat.mul_one];simp only [encs];exact List.take_of_length_le (by simp)
  ·cases h
 ·cases h
def stringslite_HasSuffix.f (a0:ByteArray) (a1:ByteArray):Option (Bool):=if (a0.size:Int)≥(a1.size:Int) then (if 0≤(wrap64 ((a0.size:Int) - (a1.size:Int))) then (if (wrap64 ((a0.size:Int) - (a1.size:Int)))≤(a0.size:Int) then (some ((a0.extract ((wrap64 ((a0.size:Int) - (a1.size:Int))):Int).toNat a0.size).toList == a1.toList)) else (none)) else (none)) else (some false)
set_option maxHeartbeats 8000000 in
set_option maxRecDepth 100000 in
theorem stringslite_HasSuffix.calls (a0:ByteArray) (a1:ByteArray) (r:Bool) (w:World) (h:stringslite_HasSuffix.f a0 a1=some r) :
  Calls Tryz.prog 70 #[.string a0,.string a1] w fun e w'=>e=.returned (.bool r)∧Drawn0 w w':=by
 have H:(if (a0.size:Int)≥(a1.size:Int) then (if 0≤(wrap64 ((a0.size:Int) - (a1.size:Int))) then (if (wrap64 ((a0.size:Int) - (a1.size:Int)))≤(a0.size:Int) then (some ((a0.extract ((wrap64 ((a0.size:Int) - (a1.size:Int))):Int).toNat a0.size).toList == a1.toList)) else (none)) else (none)) else (some false))=some r:=h;clear h
 by_cases c3:(a0.size:Int)≥(a1.size:Int)
 ·rw [if_pos c3] at H;have c3b0:decide ((a1.size:Int)≤(a0.size:Int))=true:=decide_eq_true c3;have c3b1:decide (a1.size≤a0.size)=true:=decide_eq_true (Int.ofNat_le.mp c3);clear c3;obtain ⟨ji4,hji4⟩:∃ j_:Int,(wrap64 ((a0.size:Int) - (a1.size:Int)))=j_:=⟨_,rfl⟩
  replace H:(if 0≤(ji4) then (if (ji4)≤(a0.size:Int) then (some ((a0.extract ((ji4):Int).toNat a0.size).toList == a1.toList)) else (none)) else (none))=some r:=by first|(rw [hji4] at H;exact H)|(simp only [hji4] at H ⊢;exact H)
  have hji4w:(IntKind.i64.wrap ((a0.size:Int) - (a1.size:Int)))=ji4:=(i64_w _).trans hji4
  by_cases c5:0≤(ji4)
  ·rw [if_pos c5] at H;have c5b0:=eq_true c5;have c5b1:=decide_eq_true c5;clear c5
   by_cases c6:(ji4)≤(a0.size:Int)
   ·rw [if_pos c6] at H;have c6b0:=eq_true c6;have c6b1:=decide_eq_true c6;clear c6;obtain rfl:=Option.some.inj H
    go_enter Tryz.func70,Tryz.ntmps70
    go_wp2
    go_ret
    exact ⟨by first|rfl|(simp only [IntKind.wrap_i64,wrap64];done)|(simp;done)|(simp only [← hji4] <;> (first|rfl|simp))|(simp [*];done),by repeat (first|exact Drawn0.refl _|apply Drawn0.step)⟩
   ·rw [if_neg c6] at H;exact absurd H (by simp)
  ·rw [if_neg c5] at H;exact absurd H (by simp)
 ·rw [if_neg c3] at H;have c3b0:decide ((a1.size:Int)≤(a0.size:Int))=false:=decide_eq_false c3;have c3b1:decide (a1.size≤a0.size)=false:=decide_eq_false (fun h=>c3 (Int.ofNat_le.mpr h));clear c3;obtain rfl:=Option.some.inj H
  go_enter Tryz.func70,Tryz.ntmps70
  go_wp2
  go_ret
  exact ⟨by first|rfl|(simp only [IntKind.wrap_i64,wrap64];done)|(simp;done)|(simp [*];done),by repeat (first|exact Drawn0.refl _|apply Drawn0.step)⟩
def stringslite_TrimSuffix.f (a0:ByteArray) (a1:ByteArray):Option (ByteArray):=(stringslite_HasSuffix.f a0 a1).bind fun t101=>(if t101=true then (if 0≤(wrap64 ((a0.size:Int) - (a1.size:Int))) then (if (wrap64 ((a0.size:Int) - (a1.size:Int)))≤(a0.size:Int) then (some (a0.extract 0 ((wrap64 ((a0.size:Int) - (a1.size:Int))):Int).toNat)) else (none)) else (none)) else (some a0))
set_option maxHeartbeats 8000000 in
set_option maxRecDepth 100000 in
theorem stringslite_TrimSuffix.calls (a0:ByteArray) (a1:ByteArray) (r:ByteArray) (w:World) (h:stringslite_TrimSuffix.f a0 a1=some r) :
  Calls Tryz.prog 56 #[.string a0,.string a1] w fun e w'=>e=.returned (.string r)∧Drawn0 w w':=by
 have H:((stringslite_HasSuffix.f a0 a1).bind fun t101=>(if t101=true then (if 0≤(wrap64 ((a0.size:Int) - (a1.size:Int))) then (if (wrap64 ((a0.size:Int) - (a1.size:Int)))≤(a0.size:Int) then (some (a0.extract 0 ((wrap64 ((a0.size:Int) - (a1.size:Int))):Int).toNat)) else (none)) else (none)) else (some a0)))=some r:=h;clear h;replace H:=Option.bind_eq_some_iff.mp H;obtain ⟨t101,A30,H⟩:=H;replace H:(if t101=true then (if 0≤(wrap64 ((a0.size:Int) - (a1.size:Int))) then (if (wrap64 ((a0.size:Int) - (a1.size:Int)))≤(a0.size:Int) then (some (a0.extract 0 ((wrap64 ((a0.size:Int) - (a1.size:Int))):Int).toNat)) else (none)) else (none)) else (some a0))=some r:=H;have A3:=am A30;clear A30
 by_cases c4:t101=true
 ·subst c4
  have H1:(if 0≤(wrap64 ((a0.size:Int) - (a1.size:Int))) then (if (wrap64 ((a0.size:Int) - (a1.size:Int)))≤(a0.size:Int) then (some (a0.extract 0 ((wrap64 ((a0.size:Int) - (a1.size:Int))):Int).toNat)) else (none)) else (none))=some r:=by rw [if_pos rfl] at H;exact H
  clear H;have H:=H1;clear H1;obtain ⟨ji5,hji5⟩:∃ j_:Int,(wrap64 ((a0.size:Int) - (a1.size:Int)))=j_:=⟨_,rfl⟩
  replace H:(if 0≤(ji5) then (if (ji5)≤(a0.size:Int) then (some (a0.extract 0 ((ji5):Int).toNat)) else (none)) else (none))=some r:=by first|(rw [hji5] at H;exact H)|(simp only [hji5] at H ⊢;exact H)
  (try rw [hji5] at A3);have hji5w:(IntKind.i64.wrap ((a0.size:Int) - (a1.size:Int)))=ji5:=(i64_w _).trans hji5
  by_cases c6:0≤(ji5)
  ·rw [if_pos c6] at H;have c6b0:=eq_true c6;have c6b1:=decide_eq_true c6;clear c6
   by_cases c7:(ji5)≤(a0.size:Int)
   ·rw [if_pos c7] at H;have c7b0:=eq_true c7;have c7b1:=decide_eq_true c7;clear c7;obtain rfl:=Option.some.inj H
    go_enter Tryz.func56,Tryz.ntmps56
    go_wp2_with (first|((with_reducible refine gate_callee (f:=70) rfl ?_);refine goesL_ (some 7) rfl rfl Tryz.func70 zq18 rfl #[.string a0,.string a1] rfl zq1 ?_;(with_reducible refine (stringslite_HasSuffix.calls a0 a1 true _ A3.out).mono ?_);rintro e w' ⟨rfl,⟨nd,rfl⟩⟩;refine ⟨_,rfl,?_⟩))
    go_ret
    exact ⟨by first|rfl|(simp only [IntKind.wrap_i64,wrap64];done)|(simp;done)|(simp only [← hji5] <;> (first|rfl|simp))|(simp [*];done),by repeat (first|exact Drawn0.refl _|apply Drawn0.step)⟩
   ·rw [if_neg c7] at H;exact absurd H (by simp)
  ·rw [if_neg c6] at H;exact absurd H (by simp)
 ·replace c4:=Bool.eq_false_iff.mpr c4;subst c4
  have H1:(some a0)=some r:=by rw [if_neg (show ¬ (false=true) by decide)] at H;exact H
  clear H;have H:=H1;clear H1;obtain rfl:=Option.some.inj H
  go_enter Tryz.func56,Tryz.ntmps56
  go_wp2_with (first|((with_reducible refine gate_callee (f:=70) rfl ?_);refine goesL_ (some 7) rfl rfl Tryz.func70 zq18 rfl #[.string a0,.string a1] rfl zq1 ?_;(with_reducible refine (stringslite_HasSuffix.calls a0 a1 false _ A3.out).mono ?_);rintro e w' ⟨rfl,⟨nd,rfl⟩⟩;refine ⟨_,rfl,?_⟩))
  go_ret
  exact ⟨by first|rfl|(simp only [IntKind.wrap_i64,wrap64];done)|(simp;done)|(simp [*];done),by repeat (first|exact Drawn0.refl _|apply Drawn0.step)⟩
def strings_TrimSuffix.f (a0:ByteArray) (a1:ByteArray):Option (ByteArray):=(stringslite_TrimSuffix.f a0 a1).bind fun t101=>(some t101)
set_option maxHeartbeats 8000000 in
set_option maxRecDepth 100000 in
theorem strings_TrimSuffix.calls (a0:ByteArray) (a1:ByteArray) (r:ByteArray) (w:World) (h:strings_TrimSuffix.f a0 a1=some r) :
  Calls Tryz.prog 26 #[.string a0,.string a1] w fun e w'=>e=.returned (.string r)∧Drawn0 w w':=by
 have H:((stringslite_TrimSuffix.f a0 a1).bind fun t101=>(some t101))=some r:=h;clear h;replace H:=Option.bind_eq_some_iff.mp H;obtain ⟨t101,A30,H⟩:=H;replace H:(some t101)=some r:=H;have A3:=am A30;clear A30;obtain rfl:=Option.some.inj H
 go_enter Tryz.func26,Tryz.ntmps26
 go_wp2_with (first|((with_reducible refine gate_callee (f:=56) rfl ?_);refine goesL_ (some 7) rfl rfl Tryz.func56 zq18 rfl #[.string a0,.string a1] rfl zq1 ?_;(with_reducible refine (stringslite_TrimSuffix.calls a0 a1 t101 _ A3.out).mono ?_);rintro e w' ⟨rfl,⟨nd,rfl⟩⟩;refine ⟨_,rfl,?_⟩))
 go_ret
 exact ⟨by first|rfl|(simp only [IntKind.wrap_i64,wrap64];done)|(simp;done)|(simp [*];done),by repeat (first|exact Drawn0.refl _|apply Drawn0.step)⟩
def impl_ReadLog.boxPost {α:Type} (box:Nat) (I Ix:List α→World→Prop) (xs:List α) (W:World):Exit→Act→World→Prop
  | .normal,_,W'=>KeepsOthers W W'∧W'.heap[box]?=W.heap[box]?∧I xs W'
  | .ret,_,W'=>KeepsOthers W W'∧Ix xs W'
  | _,_,_=>False
theorem impl_ReadLog.heap_kept {W W':World} {box k:Nat} {o:Obj} (hg:W.grownBy W' (some box)) (hne:k≠box) (h:W.heap[k]?=some o):W'.heap[k]?=some o :=
  (hg.block k (Array.getElem?_eq_some_iff.1 h).1 (fun e=>hne (by cases e; rfl))).trans h
theorem impl_ReadLog.range_boxed {α:Type} {F:Fence} {n:Nat} {P:Program} {g:Operand} {ps:Array Tmp} {assign body:Code} {Q:Exit→Act→World→Prop} {a:Act} {w:World}
    (hro:F.round=none) (h1:1≤n) {gf:Nat} {lb:Array Value} (hg:a.eval g=.func (.func gf) #[] lb) (hFg:F.fn gf) (eg:∀ args w,(callFunc gf args).run P w=.ok (.enter gf args) w)
    {encs:α→Array Value} (hps:∀ x,(encs x).size=ps.size) {ok:List α→α→Prop} {S:List α→Prop} {box:Nat} (hbox:box < w.heap.size)
    (hseq:∀ (l:Nat) (J Jx:List α→World→Prop) (W:World),W.heap[box]?=w.heap[box]?→(∀ s A B,J s A→A.grownBy B (some box)→J s B)→(∀ s A B,Jx s A→A.grownBy B (some box)→Jx s B) →
      (∀ pre x W1,J pre W1→ok pre x→YieldAt F (n - 1 - 1) P l (encs x) W1 fun e W'=>(e=.returned (.bool true)∧J (pre ++ [x]) W'∧W'.heap[box]?=W1.heap[box]?)∨(e=.returned (.bool false)∧Jx (pre ++ [x]) W'))→J [] W →
      CallsIn F (n - 1) P gf (#[.func (.yield l) #[] #[]] ++ lb) W fun e W'=>(∃ v,e=.returned v)∧((∃ xs,S xs∧J xs W')∨∃ pre,Jx pre W'))
    (I Ix:List α→World→Prop) (hI:OwnFrom w.heap.size I) (hIx:OwnFrom w.heap.size Ix) (hIs:∀ s A B,I s A→A.grownBy B (some box)→I s B) (hXs:∀ s A B,Ix s A→A.grownBy B (some box)→Ix s B) (h0:I [] w) (a₁:α→Act)
    (hassign:∀ (l:Nat) (x:α) (W:World) (K:Act→World→Prop),K (a₁ x) W →
      assign.wpIn (F.inRound l) (n - 1 - 1) P (Exit.then K (fun _ _ _=>False)) { tmps:=(ps.zip (encs x)).foldl (fun t (p,v)=>t.setIfInBounds p v) a.tmps,defers:=[] } W)
    (hbody:∀ (l:Nat) (pre:List α) (x:α) (W:World),I pre W→ok pre x→body.wpIn (F.inRound l) (n - 1 - 1) P (impl_ReadLog.boxPost box I Ix (pre ++ [x]) W) (a₁ x) W)
    (hdone:∀ (D:Nat) (xs:List α) (W:World),w.heap.size≤D→S xs→I xs W→W.heap[D]?=some (.deferred (some []))→Q .normal { a with defers:={ target:=.collected D,args:=#[] } :: a.defers } W)
    (hstop:∀ (D:Nat) (pre:List α) (W:World),w.heap.size≤D→Ix pre W→W.heap[D]?=some (.deferred (some []))→Code.ret.wpIn F n P Q { a with defers:={ target:=.collected D,args:=#[] } :: a.defers } W) :
    (Code.rangeFunc g ps assign body).wpIn F n P Q a w:=by
  refine wpIn_rangeFunc fun fn hfn=>?_
  rw [hro]
  obtain ⟨rec,hrec⟩:∃ rec:LoopState→Option Code→Loop,rec=fun st pe=>{ state:=st,pending:=pe,fn,tmps:=a.tmps,params:=ps,assign,body,defers:=w.heap.size }:=⟨_,rfl⟩
  obtain ⟨V,hV⟩:∃ V,(w.alloc (.deferred (some []))).alloc (.loop (rec .ready none))=V:=⟨_,rfl⟩
  have sz:V.heap.size=w.heap.size + 2:=by rw [← hV]; simp
  have vL:V.heap[w.heap.size + 1]?=some (.loop (rec .ready none)):=by
    rw [← hV]
    have:=World.alloc_heap_new (w.alloc (.deferred (some []))) (.loop (rec .ready none))
    rwa [World.size_alloc] at this
  have vD:V.heap[w.heap.size]?=some (.deferred (some [])):=by
    rw [← hV]
    exact (Below.heap_alloc _ _ _ (by simp)).trans (World.alloc_heap_new w _)
  have vI:I [] V:=by
    rw [← hV]
    exact hI.alloc _ (hI.alloc _ h0)
  have vB:V.heap[box]?=w.heap[box]?:=by
    rw [← hV]
    exact (Below.heap_alloc _ _ _ (by simp; omega)).trans (Below.heap_alloc _ _ _ hbox)
  refine ⟨w.heap.size + 1,[{ target:=.collected w.heap.size,args:=#[] }],V,{ target:=.fn (.func gf) lb,args:=#[.func (.yield (w.heap.size + 1)) #[] #[]] },V,gf,
    #[.func (.yield (w.heap.size + 1)) #[] #[]] ++ lb,V,?_,?_,?_,?_,fun _=>h1,?_⟩
  · rw [← hV,hrec]
    exact run_enterLoop_outer _ _ _ _ _
  · simp only [resolve,hg]
    simp [go_sem]
  · intro f' hf'
    simp [Target.leads] at hf'
    subst hf'
    exact hFg
  · simp [invoke,go_sem,eg]
  refine (hseq (w.heap.size + 1)
    (fun pre W=>I pre W∧W.heap[w.heap.size + 1]?=some (.loop (rec .ready none))∧W.heap[w.heap.size]?=some (.deferred (some [])))
    (fun pre W=>Ix pre W∧W.heap[w.heap.size + 1]?=some (.loop (rec .done (some .ret)))∧W.heap[w.heap.size]?=some (.deferred (some [])))
    V vB (fun s A B h hg=>⟨hIs s A B h.1 hg,impl_ReadLog.heap_kept hg (by omega) h.2.1,impl_ReadLog.heap_kept hg (by omega) h.2.2⟩) (fun s A B h hg=>⟨hXs s A B h.1 hg,impl_ReadLog.heap_kept hg (by omega) h.2.1,impl_ReadLog.heap_kept hg (by omega) h.2.2⟩) ?_ ⟨vI,vL,vD⟩).mono ?_
  · rintro pre x W ⟨hi,hl,hd⟩ hok
    have hy:=run_yield (P:=P) (args:=encs x) hl (by rw [hrec]; exact hps x)
    rw [hrec] at hy
    refine ⟨fn,_,assign,body,hy,roundIn_of_wpIn hfn (hassign _ x W _ ⟨_,run_beginRound hl (by rw [hrec]),?_⟩)⟩
    have hlt:w.heap.size + 1 < W.heap.size:=(Array.getElem?_eq_some_iff.1 hl).1
    obtain ⟨U,hU⟩:∃ U,W.putObj (w.heap.size + 1) (.loop { rec .ready none with state:=.busy })=U:=⟨_,rfl⟩
    have uL:U.heap[w.heap.size + 1]?=some (.loop { rec .ready none with state:=.busy }):=by rw [← hU]; exact World.putObj_heap_same hlt
    have uD:U.heap[w.heap.size]?=some (.deferred (some [])):=by rw [← hU]; exact (World.putObj_heap_other (by omega)).trans hd
    have uB:U.heap[box]?=W.heap[box]?:=by rw [← hU]; exact World.putObj_heap_other (by omega)
    have uI:I pre U:=by rw [← hU]; exact hI.putObj _ hi (by omega) hl rfl
    rw [hU]
    refine wpIn_mono (hbody _ pre x U uI hok) ?_
    have fin:∀ (jump:Option Code) (X:World),KeepsOthers U X→∃ Y,(Instr.endRound (w.heap.size + 1) jump).run P X=.ok (.bool jump.isNone) Y ∧
        Y=X.putObj (w.heap.size + 1) (.loop (rec (if jump.isNone then .ready else .done) jump))∧X.heap[w.heap.size + 1]?=some (.loop { rec .ready none with state:=.busy }) ∧
        Y.heap[w.heap.size + 1]?=some (.loop (rec (if jump.isNone then .ready else .done) jump))∧Y.heap[w.heap.size]?=some (.deferred (some [])):=fun jump X hk=>by
      have xL:=hk.same _ _ uL rfl
      have xD:=hk.same _ _ uD rfl
      have:=run_endRound (P:=P) jump xL
      rw [hrec] at this
      refine ⟨_,this,by rw [hrec],xL,?_,(World.putObj_heap_other (by omega)).trans xD⟩
      rw [hrec]
      exact World.putObj_heap_same (Array.getElem?_eq_some_iff.1 xL).1
    rintro e a3 X hp
    cases e with
    | normal =>
      obtain ⟨hk,hb,hi3⟩:=hp
      obtain ⟨Y,hr,rfl,xL,yL,yD⟩:=fin none X hk
      exact ⟨_,_,hr,.inl ⟨rfl,⟨hI.putObj _ hi3 (by omega) xL rfl,yL,yD⟩,((World.putObj_heap_other (by omega)).trans hb).trans uB⟩⟩
    | ret =>
      obtain ⟨hk,hi3⟩:=hp
      obtain ⟨Y,hr,rfl,xL,yL,yD⟩:=fin (some .ret) X hk
      exact ⟨_,_,hr,.inr ⟨rfl,hIx.putObj _ hi3 (by omega) xL rfl,yL,yD⟩⟩
    | exit id=>exact hp.elim
    | goto t=>exact hp.elim
    | panic ch=>exact hp.elim
    | outgrown=>exact hp.elim
  · rintro e X ⟨⟨v,rfl⟩,⟨xs,hS,hi,hl,hd⟩|⟨pre,hi,hl,hd⟩⟩
    · have:=run_endLoop (P:=P) hl (by rw [hrec]; simp)
      rw [hrec] at this
      exact ⟨none,_,this,hdone _ xs _ (Nat.le_refl _) hS (hI.putObj _ hi (by omega) hl rfl) ((World.putObj_heap_other (by omega)).trans hd)⟩
    · have:=run_endLoop (P:=P) hl (by rw [hrec]; simp)
      rw [hrec] at this
      exact ⟨some .ret,_,this,hstop _ pre _ (Nat.le_refl _) (hIx.putObj _ hi (by omega) hl rfl) ((World.putObj_heap_other (by omega)).trans hd)⟩
section
variable {n r:Nat} {P:Program} {ops:Array Oper} {Q:Exit→Act→World→Prop}
theorem impl_ReadLog.lift_op {o:Oper} (hd:∀ c,o.op≠.defer c) {K:Act→World→Prop} {a:Act} {w:World} (h:o.wp P a w K Q):o.wpIn (Fence.wide.inRound r) n P a w K Q:=by
  refine ⟨fun _ _=>trivial,?_⟩
  rw [Oper.semAt_plain _ _ _ hd]
  unfold Oper.wp at h
  revert h
  generalize (execOp a.eval o).run P w=x
  intro h
  cases x with
  | ok y w' =>
    cases y with
    | value v=>exact h
    | skip=>exact h
    | defer d=>exact h
    | enter f args=>exact ⟨fun h=>by simp [Fence.wide] at h,callsIn_wide.2 h⟩
    | row row args=>exact ⟨fun h=>by simp [Fence.wide] at h,fun c cs _=>let ⟨v,w2,h1,h2⟩:=h c cs; ⟨v,w2,h1,stepsIn_wide.2 h2⟩⟩
    | _=>exact h.elim
  | halt y w'=>cases y <;> exact h
theorem impl_ReadLog.lift_ops (hd:∀ (i:Nat) (o:Oper),ops[i]?=some o→∀ c,o.op≠.defer c) (hQ:∀ a w,¬ Q .outgrown a w):∀ (l:List Nat) (a:Act) (w:World),wpOps P ops Q l a w→wpOpsIn (Fence.wide.inRound r) n P ops Q l a w
  | [],_,_,h=>h
  | i :: l,a,w,h=>by
    rw [wpOpsIn_cons]
    rw [wpOps_cons] at h
    unfold wpOpIn
    unfold wpOp at h
    cases ho:ops[i]? with
    | none =>
      rw [ho] at h
      exact impl_ReadLog.lift_ops hd hQ l a w h
    | some o =>
      rw [ho] at h
      simp only at h ⊢
      by_cases hw:Region.wanted o (yielded ops a.tmps)=true
      · rw [if_pos hw] at h ⊢
        rcases h with h|⟨_,x,y,h⟩
        · exact Oper.wpIn_mono (fun a w=>impl_ReadLog.lift_ops hd hQ l a w) (impl_ReadLog.lift_op (hd i o ho) h)
        · exact absurd h (hQ x y)
      · rw [if_neg hw] at h ⊢
        exact ⟨fun _ _=>trivial,impl_ReadLog.lift_ops hd hQ l _ w h⟩
def impl_ReadLog.noDefer (ops:Array Oper):Bool:=ops.toList.all fun o=>match o.op with|.defer _=>false|_=>true
theorem impl_ReadLog.noDefer_spec (h:impl_ReadLog.noDefer ops=true):∀ (i:Nat) (o:Oper),ops[i]?=some o→∀ c,o.op≠.defer c:=fun i o ho c e=>by
  have h1:o∈ops.toList:=by
    obtain ⟨hi,rfl⟩:=Array.getElem?_eq_some_iff.1 ho
    simp
  have h2:=List.all_eq_true.1 h o h1
  simp only [e] at h2
  cases h2
theorem impl_ReadLog.lift_draw {id:Nat} (hm:P.follows .mixedOrders=true) (hd:impl_ReadLog.noDefer ops=true) (hQ:∀ a w,¬ Q .outgrown a w) {a:Act} {w:World}
    (h:wpAny P .any ops Q ops.size (Array.replicate ops.size false) a w.drew):(Code.region id ops true).wpIn (Fence.wide.inRound r) n P Q a w :=
  wpIn_region_draw fun t=>by
    simp only [Region.schedule,hm,Bool.true_or,if_true]
    exact impl_ReadLog.lift_ops (impl_ReadLog.noDefer_spec hd) hQ _ a _ (wpAny_sound ops.size t _ a _ h)
end
def impl_ReadLog.lines:List UInt8→List (List UInt8)
  | []=>[]
  | b :: l=>if b=10 then [10] :: impl_ReadLog.lines l else (match impl_ReadLog.lines l with|[]=>[[b]]|h :: t=>(b :: h) :: t)
theorem impl_ReadLog.lines_hit (t:List UInt8):∀ (p:List UInt8),(∀ b∈p,b≠10)→impl_ReadLog.lines (p ++ 10 :: t)=(p ++ [10]) :: impl_ReadLog.lines t
  | [],_=>by
    simp only [List.nil_append]
    conv=>lhs; unfold impl_ReadLog.lines
    rw [if_pos rfl]
  | b :: p,h=>by
    simp only [List.cons_append]
    conv=>lhs; unfold impl_ReadLog.lines
    rw [if_neg (h b (by simp)),impl_ReadLog.lines_hit t p (fun x hx=>h x (by simp [hx]))]
theorem impl_ReadLog.lines_miss:∀ (p:List UInt8),p≠[]→(∀ b∈p,b≠10)→impl_ReadLog.lines p=[p]
  | [],h,_=>absurd rfl h
  | [b],_,h=>by simp [impl_ReadLog.lines,h b (by simp)]
  | b :: c :: p,_,h=>by
    unfold impl_ReadLog.lines
    rw [if_neg (h b (by simp)),impl_ReadLog.lines_miss (c :: p) (by simp) (fun x hx=>h x (List.mem_cons_of_mem _ hx))]
theorem impl_ReadLog.lines_some {s:List UInt8} {i:Nat} (h:Lib.indexByte s 10=(i:Int)):i < s.length∧impl_ReadLog.lines s=s.take (i + 1) :: impl_ReadLog.lines (s.drop (i + 1)):=by
  obtain ⟨hg,hb⟩:=Lib.indexByte_some h
  obtain ⟨hil,e3⟩:=List.getElem?_eq_some_iff.1 hg
  refine ⟨hil,?_⟩
  have hs:s=s.take i ++ 10 :: s.drop (i + 1):=by
    rw [← e3,← List.drop_eq_getElem_cons hil,List.take_append_drop]
  conv=>lhs; rw [hs]
  rw [impl_ReadLog.lines_hit _ _ (fun b hb' e=>by
    obtain ⟨j,hj,rfl⟩:=List.mem_iff_getElem.1 hb'
    rw [List.length_take] at hj
    rw [List.getElem_take] at e
    exact hb j (by omega) ((List.getElem?_eq_getElem (by omega)).trans (congrArg some e))),List.take_succ_eq_append_getElem hil,e3]
theorem impl_ReadLog.lines_none {s:List UInt8} (hne:s≠[]) (h:Lib.indexByte s 10=-1):impl_ReadLog.lines s=[s] :=
  impl_ReadLog.lines_miss s hne fun b hb e=>by
    obtain ⟨j,hj,rfl⟩:=List.mem_iff_getElem.1 hb
    exact Lib.indexByte_none h j (by rw [List.getElem?_eq_getElem hj,e])
attribute [local go_sem] Oper.semAt_some
set_option maxHeartbeats 4000000 in
set_option maxRecDepth 100000 in
theorem impl_ReadLog.iter (n l Bs:Nat) (s0:List UInt8) (J Jx:List (List UInt8)→World→Prop) (hJ:∀ s A B,J s A→A.grownBy B (some Bs)→J s B)
    (hY:∀ pre x W1,J pre W1→(∃ suf,impl_ReadLog.lines s0=pre ++ x :: suf)→YieldAt Fence.wide (n - 1) Tryz.prog l #[.string ⟨x.toArray⟩] W1 fun e W'=>(e=.returned (.bool true)∧J (pre ++ [x]) W'∧W'.heap[Bs]?=W1.heap[Bs]?)∨(e=.returned (.bool false)∧Jx (pre ++ [x]) W'))
    (W:World) (hb:W.heap[Bs]?=some (.cells #[.string ⟨s0.toArray⟩] 9 (0,0))) (h0:J [] W) (hlen:s0.length≤4294967280) :
    CallsIn Fence.wide n Tryz.prog 53 #[.func (.yield l) #[] #[],.pointer (some ⟨Bs,0,none⟩)] W fun e W'=>(∃ v,e=.returned v)∧((∃ xs,xs=impl_ReadLog.lines s0∧J xs W')∨∃ pre,Jx pre W'):=by
  refine callsIn_of_wp Tryz.func53 rfl trivial ?_ rfl
  simp only [Tryz.ntmps53,List.size_toArray,List.length_cons,List.length_nil,Nat.reduceAdd,Nat.reduceSub,Array.replicate_succ,Array.replicate_zero,List.push_toArray,List.append_toArray,List.nil_append,List.cons_append]
  gi_wp2
  gi_loopg [] (s0.length) (fun g wr=>∃ (pre:List (List UInt8)) (s:List UInt8),impl_ReadLog.lines s0=pre ++ impl_ReadLog.lines s∧wr.heap[Bs]?=some (.cells #[.string ⟨s.toArray⟩] 9 (0,0))∧J pre wr∧s.length≤g∧s.length≤4294967280)
  case atStart =>
    exact ⟨[],s0,rfl,hb,h0,Nat.le_refl _,hlen⟩
  case round =>
    obtain ⟨pre,s,hx,hbx,hJs,hg,hl⟩:=hrel
    have hc:wr.cell? ⟨Bs,0,none⟩=some (.string ⟨s.toArray⟩):=by simp [World.cell?,hbx]
    have hf:wr.frozen? ⟨Bs,0,none⟩=false:=by simp [World.frozen?,hbx]
    have hm:Tryz.prog.follows .mixedOrders=true:=by kernel_rfl
    by_cases hs:s=[]
    · subst hs
      gi_wp2
      go_end0
      exact ⟨⟨_,rfl⟩,.inl ⟨_,rfl,by rw [hx]; simpa [impl_ReadLog.lines] using hJs⟩⟩
    · have hpos:0 < s.length:=List.length_pos_iff.2 hs
      have hsz:(⟨s.toArray⟩:ByteArray).size=s.length:=by simp [ByteArray.size]
      have q0:(0:Int) < (((⟨s.toArray⟩:ByteArray).size:Nat):Int):=by rw [hsz]; omega
      rcases Lib.indexB_cases ⟨s.toArray⟩ ⟨#[10]⟩ with h|⟨i,h,_⟩
      · have h2:Lib.indexByte s 10=-1:=by
          rw [← Lib.index_one]
          exact h
        have hIB:∀ W,Calls Tryz.prog 54 #[.string ⟨s.toArray⟩,.int .u8 10] W fun e w'=>e=.returned (.int .i64 (-1))∧w'=W:=fun W=>(show (Lib.indexByte s 10=-1) from h2) ▸ Tryz.strings_IndexByte ⟨s.toArray⟩ 10 W
        have hln:=impl_ReadLog.lines_none hs h2
        have hg0:wr.grownBy (wr.setCell ⟨Bs,0,none⟩ (.string ⟨#[]⟩)) (some Bs):=grownBy_setCell' wr Bs _
        have hJ2:=hJ _ _ _ hJs hg0
        have hb2:(wr.setCell ⟨Bs,0,none⟩ (.string ⟨#[]⟩)).heap[Bs]?=some (.cells #[.string ⟨#[]⟩] 9 (0,0)):=Boxed.set _ hbx
        obtain ⟨fn,tmps,assign,body,hy,hR⟩:=hY pre s _ hJ2 ⟨[],by rw [hx,hln]⟩
        gi_wp2_with (refine ⟨trivial,(fun h_=>by simp [Fence.wide] at h_),?_⟩; gi_at_call 54; refine (callsIn_wide.2 (hIB _)).mono ?_; rintro e w' ⟨rfl,hw_⟩; replace hw_:=hw_.symm; subst hw_)
        refine ⟨fun h_=>by simp [Fence.wide] at h_,hR.mono ?_⟩
        rintro e W3 (⟨rfl,hJ3,hk3⟩|⟨rfl,hJx3⟩)
        · have hb3:W3.heap[Bs]?=some (.cells #[.string ⟨([]:List UInt8).toArray⟩] 9 (0,0)):=hk3.trans hb2
          gi_wp2
          gi_roundg ([]:List UInt8).length
          case measure=>(first|(simp; omega)|(rw [List.length_drop]; omega))
          case rel=>exact ⟨pre ++ [s],[],by rw [hx,hln]; simp [impl_ReadLog.lines],hb3,hJ3,Nat.le_refl _,by (first|(simp; done)|(rw [List.length_drop]; omega))⟩
        · gi_wp2
          refine bodyPost_ret (results_none rfl _ _ _) rfl ?_
          exact ⟨⟨_,rfl⟩,.inr ⟨_,hJx3⟩⟩
      · have h2:Lib.indexByte s 10=(i:Int):=by
          rw [← Lib.index_one]
          exact h
        have hIB:∀ W,Calls Tryz.prog 54 #[.string ⟨s.toArray⟩,.int .u8 10] W fun e w'=>e=.returned (.int .i64 (i:Int))∧w'=W:=fun W=>(show (Lib.indexByte s 10=(i:Int)) from h2) ▸ Tryz.strings_IndexByte ⟨s.toArray⟩ 10 W
        obtain ⟨hil,hln⟩:=impl_ReadLog.lines_some h2
        have hw1:wrap64 ((i:Int) + 1)=((i + 1:Nat):Int):=by
          unfold wrap64
          omega
        have i0:(0:Int)≤(i:Int):=by omega
        gi_wp2_with (refine ⟨trivial,(fun h_=>by simp [Fence.wide] at h_),?_⟩; gi_at_call 54; refine (callsIn_wide.2 (hIB _)).mono ?_; rintro e w' ⟨rfl,hw_⟩; replace hw_:=hw_.symm; subst hw_)
        gi_region
        have hx1:(⟨s.toArray⟩:ByteArray).extract 0 (i + 1)=⟨(s.take (i + 1)).toArray⟩:=by
          apply ByteArray.ext
          simp [ByteArray.data_extract,List.extract_eq_take_drop]
        have hx2:(⟨s.toArray⟩:ByteArray).extract (i + 1) s.length=⟨(s.drop (i + 1)).toArray⟩:=by
          apply ByteArray.ext
          simp only [ByteArray.data_extract,List.extract_toArray,List.extract_eq_take_drop]
          rw [List.take_of_length_le (by simp)]
        rw [hx1,hx2]
        obtain ⟨W2,hW2⟩:∃ W2,(wr.setCell ⟨Bs,0,none⟩ (.string ⟨(s.drop (i + 1)).toArray⟩)).drew=W2:=⟨_,rfl⟩
        have hg0:wr.grownBy W2 (some Bs):=by
          rw [← hW2]
          obtain ⟨g1,g2,g3,g4,g5⟩:=grownBy_setCell' wr Bs (.string ⟨(s.drop (i + 1)).toArray⟩)
          exact ⟨g1,g2,g3,g4,g5⟩
        have hJ2:=hJ _ _ _ hJs hg0
        have hb2:W2.heap[Bs]?=some (.cells #[.string ⟨(s.drop (i + 1)).toArray⟩] 9 (0,0)):=by
          rw [← hW2]
          exact Boxed.set _ hbx
        rw [hW2]
        obtain ⟨fn,tmps,assign,body,hy,hR⟩:=hY pre (s.take (i + 1)) W2 hJ2 ⟨_,by rw [hx,hln]⟩
        gi_wp2
        refine ⟨fun h_=>by simp [Fence.wide] at h_,hR.mono ?_⟩
        rintro e W3 (⟨rfl,hJ3,hk3⟩|⟨rfl,hJx3⟩)
        · have hb3:W3.heap[Bs]?=some (.cells #[.string ⟨(s.drop (i + 1)).toArray⟩] 9 (0,0)):=hk3.trans hb2
          gi_wp2
          gi_roundg (s.drop (i + 1)).length
          case measure=>(first|(simp; omega)|(rw [List.length_drop]; omega))
          case rel=>exact ⟨pre ++ [s.take (i + 1)],s.drop (i + 1),by rw [hx,hln]; simp [impl_ReadLog.lines],hb3,hJ3,Nat.le_refl _,by (first|(simp; done)|(rw [List.length_drop]; omega))⟩
        · gi_wp2
          refine bodyPost_ret (results_none rfl _ _ _) rfl ?_
          exact ⟨⟨_,rfl⟩,.inr ⟨_,hJx3⟩⟩
theorem impl_ReadLog.makes (s:ByteArray) (w:World):Calls Tryz.prog 24 #[.string s] w fun e w'=>e=.returned (.func (.func 53) #[] #[.pointer (some ⟨w.heap.size,0,none⟩)])∧w'=w.alloc (.cells #[.string s] 9):=by
  go_enter Tryz.func24,Tryz.ntmps24
  go_wp2
  go_ret
  exact ⟨rfl,rfl⟩
def impl_ReadLog.one (x:List UInt8) (acc:List S41):Option (Option S41) :=
  (strings_TrimSuffix.f ⟨x.toArray⟩ ⟨#[10]⟩).bind fun t=>(strings_Split.f t ⟨#[32]⟩).bind fun ws =>
    if ws.length=3 then (if acc.length=60 then some none else (impl_number.f (ws.getD 0 ByteArray.empty) 100000).bind fun p=>(impl_number.f (ws.getD 2 ByteArray.empty) 9999).bind fun q =>
      if p.2=true∧q.2=true then some (some ⟨p.1,q.1,(ws.getD 1 ByteArray.empty).toList == [100,111,119,110]⟩) else some none) else some none
def impl_ReadLog.l0:List (List UInt8)→List S41→Option (Option (List S41))
  | [],acc=>some (some acc)
  | x :: r,acc=>(impl_ReadLog.one x acc).bind fun o=>match o with
    | none=>some none
    | some y=>impl_ReadLog.l0 r (acc ++ [y])
def impl_ReadLog.f (s:ByteArray):Option (List S41 × Int):=if s.size≤4294967280 then (impl_ReadLog.l0 (impl_ReadLog.lines s.data.toList) []).bind fun o=>match o with
    | none=>some ([],5)
    | some g=>(impl_LogText.f g).bind fun t=>if t.toList=s.toList then some (g,0) else some ([],5)
  else none
def impl_ReadLog.I (w:World) (b2 b3 b4 bs:Nat) (s0:List UInt8) (R:Option (List S41)) (pre:List (List UInt8)) (W:World):Prop :=
  ∃ (v:Value) (acc:List S41),(∃ suf,impl_ReadLog.lines s0=pre ++ suf∧impl_ReadLog.l0 suf acc=some R)∧acc.length≤60∧Boxed W b4 25 v∧Kd.R k41 41 W w.heap.size (fun k=>k≠bs) v acc ∧
    Boxed W b2 25 (.slice none 0 0)∧Boxed W b3 2 (.int .i64 0)∧Below w.heap.size w W∧bs < W.heap.size
def impl_ReadLog.Ix (w:World) (b2 b3 bs:Nat) (R:Option (List S41)) (pre:List (List UInt8)) (W:World):Prop :=
  R=none∧Boxed W b2 25 (.slice none 0 0)∧Boxed W b3 2 (.int .i64 5)∧Below w.heap.size w W
section
variable {w:World} {b2 b3 b4 bs:Nat} {s0:List UInt8} {R:Option (List S41)} {pre:List (List UInt8)} {A B:World} {row:Option Nat}
theorem impl_ReadLog.row_ne (hr:∀ r,row=some r→w.heap.size≤r∧(r=bs∨∀ cs q,A.heap[r]?≠some (.cells cs q (0,0)))) {k q:Nat} {cs:Array Value} (hk:k≠bs) (h:A.heap[k]?=some (.cells cs q (0,0))):some k≠row:=fun e=>by
  rcases (hr k e.symm).2 with h1|h1
  · exact hk h1
  · exact h1 _ _ h
theorem impl_ReadLog.I_kept (h2:b2≠bs) (h3:b3≠bs) (h4:b4≠bs) (h:impl_ReadLog.I w b2 b3 b4 bs s0 R pre A) (hg:A.grownBy B row) (hr:∀ r,row=some r→w.heap.size≤r∧(r=bs∨∀ cs q,A.heap[r]?≠some (.cells cs q (0,0)))):impl_ReadLog.I w b2 b3 b4 bs s0 R pre B:=by
  obtain ⟨v,acc,hl,hn,k4,hR,k2,k3,hB,hb⟩:=h
  refine ⟨v,acc,hl,hn,k4.kept hg (impl_ReadLog.row_ne hr h4 k4),?_,k2.kept hg (impl_ReadLog.row_ne hr h2 k2),k3.kept hg (impl_ReadLog.row_ne hr h3 k3),hB.grown hg hB.size (fun k e=>(hr k e).1),Nat.lt_of_lt_of_le hb hg.size⟩
  refine Kd.R_mono (Kd.R_grown (Kd.R_bound hR) hg fun k hk=>?_) (fun k hk=>hk.1)
  obtain ⟨q1,q2,q3,q,q4,cells,q5⟩:=hk
  exact impl_ReadLog.row_ne hr q1 q5
theorem impl_ReadLog.Ix_kept (h2:b2≠bs) (h3:b3≠bs) (h:impl_ReadLog.Ix w b2 b3 bs R pre A) (hg:A.grownBy B row) (hr:∀ r,row=some r→w.heap.size≤r∧(r=bs∨∀ cs q,A.heap[r]?≠some (.cells cs q (0,0)))):impl_ReadLog.Ix w b2 b3 bs R pre B:=by
  obtain ⟨hl,k2,k3,hB⟩:=h
  exact ⟨hl,k2.kept hg (impl_ReadLog.row_ne hr h2 k2),k3.kept hg (impl_ReadLog.row_ne hr h3 k3),hB.grown hg hB.size (fun k e=>(hr k e).1)⟩
theorem impl_ReadLog.non_cells {n0:Nat} (hle:w.heap.size≤n0) (hr:∀ r,row=some r→n0≤r∧∃ o:Obj,A.heap[r]?=some o∧o.isCells=false):∀ r,row=some r→w.heap.size≤r∧(r=bs∨∀ cs q,A.heap[r]?≠some (.cells cs q (0,0))):=fun r e=>by
  obtain ⟨h1,o,h2,h3⟩:=hr r e
  exact ⟨Nat.le_trans hle h1,.inr fun cs q h=>by rw [h2] at h; cases h; cases h3⟩
end
structure impl_ReadLog.M (w:World) (b2 b3 b4 bs:Nat) (v:Value) (acc:List S41) (Ws W:World):Prop where
  k4:Boxed W b4 25 v
  kR:Kd.R k41 41 W w.heap.size (fun k=>k≠bs) v acc
  k2:Boxed W b2 25 (.slice none 0 0)
  k3:Boxed W b3 2 (.int .i64 0)
  kB:Below w.heap.size w W
  kb:bs < W.heap.size
  kO:KeepsOthers Ws W
  kS:W.heap[bs]?=Ws.heap[bs]?
theorem impl_ReadLog.M_below {w:World} {b2 b3 b4 bs:Nat} {v:Value} {acc:List S41} {Ws W W':World} (h:impl_ReadLog.M w b2 b3 b4 bs v acc Ws W) (hb:Below W.heap.size W W'):impl_ReadLog.M w b2 b3 b4 bs v acc Ws W' where
  k4:=(hb.block _ h.k4.lt).trans h.k4
  kR:=Kd.R_below h.kR hb
  k2:=(hb.block _ h.k2.lt).trans h.k2
  k3:=(hb.block _ h.k3.lt).trans h.k3
  kB:=h.kB.trans (hb.mono h.kB.size)
  kb:=Nat.lt_of_lt_of_le h.kb hb.size
  kO:=h.kO.trans ⟨hb.size,fun k o hk _=>(hb.block k (Array.getElem?_eq_some_iff.1 hk).1).trans hk⟩
  kS:=(hb.block _ h.kb).trans h.kS
theorem impl_ReadLog.out {w:World} {b2 b3 b4 bs:Nat} {v:Value} {acc:List S41} {Ws W:World} {pre:List (List UInt8)} (h:impl_ReadLog.M w b2 b3 b4 bs v acc Ws W) (z2:w.heap.size≤b2) (z3:w.heap.size≤b3) (n23:b2≠b3) :
    KeepsOthers Ws ((W.setCell ⟨b2,0,none⟩ (.slice none 0 0)).setCell ⟨b3,0,none⟩ (.int .i64 5))∧impl_ReadLog.Ix w b2 b3 bs none pre ((W.setCell ⟨b2,0,none⟩ (.slice none 0 0)).setCell ⟨b3,0,none⟩ (.int .i64 5)) :=
  ⟨h.kO.trans ((KeepsOthers.setCell _ _ _).trans (KeepsOthers.setCell _ _ _)),rfl,Boxed.other (Boxed.set _ h.k2) n23 _,Boxed.set _ (Boxed.other h.k3 (Ne.symm n23) _),(h.kB.setCell (p:=⟨b2,0,none⟩) z2 _).setCell (p:=⟨b3,0,none⟩) z3 _⟩
theorem impl_ReadLog.start_in {P:Program} {ops:Array Oper} {Q:Exit→Act→World→Prop} {S:World→Prop} {ds:List Nat} {id n m r:Nat} {a:Act} {w:World} (l:Array Bool) (hm:P.follows .mixedOrders=true) (hd:impl_ReadLog.noDefer ops=true) (hQ:∀ a w,¬ Q .outgrown a w) (hn:ops.size=n) (hl:Array.replicate n false=l) (hS:S w.drew)
    (h:S w.drew→wpAnyLast P .any ops Q S ds n l a w.drew):(Code.region id ops true).wpIn (Fence.wide.inRound r) m P Q a w:=by
  subst hn
  subst hl
  exact impl_ReadLog.lift_draw hm hd hQ (wpAny_of_last _ _ _ _ (h hS))
theorem impl_ReadLog.goes {w:World} {b2 b3 b4 bs:Nat} {v v1:Value} {s0 x:List UInt8} {suf pre:List (List UInt8)} {R:Option (List S41)} {acc:List S41} {y:S41} {Ws W w5:World} (h:impl_ReadLog.M w b2 b3 b4 bs v acc Ws W) (hg:W.grownBy w5 v.ownBlock)
    (ho:Kd.R k41 41 w5 w.heap.size (fun k=>k≠bs) v1 (acc ++ [y])) (hb:Below w.heap.size w w5) (z4:w.heap.size≤b4) (n24:b2≠b4) (n34:b3≠b4) (hx:impl_ReadLog.lines s0=pre ++ x :: suf) (hn:acc.length < 60) (hl:impl_ReadLog.l0 suf (acc ++ [y])=some R) (n4:b4≠bs) :
    KeepsOthers Ws (w5.setCell ⟨b4,0,none⟩ v1)∧(w5.setCell ⟨b4,0,none⟩ v1).heap[bs]?=Ws.heap[bs]?∧impl_ReadLog.I w b2 b3 b4 bs s0 R (pre ++ [x]) (w5.setCell ⟨b4,0,none⟩ v1):=by
  have k4:=h.k4.kept hg (Kd.R_ne h.kR h.k4 (by decide))
  have k2:=h.k2.kept hg (Kd.R_ne h.kR h.k2 (by decide))
  have k3:=h.k3.kept hg (Kd.R_ne h.kR h.k3 (by decide))
  have hsz:(w5.setCell ⟨b4,0,none⟩ v1).heap.size=w5.heap.size:=by show (w5.heap.modify _ _).size=_; rw [Array.size_modify]
  have hkb:bs < w5.heap.size:=Nat.lt_of_lt_of_le h.kb hg.size
  refine ⟨h.kO.trans ((KeepsOthers.of_grownBy hg fun j o e hj=>?_).trans (KeepsOthers.setCell _ _ _)),?_,?_⟩
  · obtain ⟨cells,hc⟩:=Kd.R_typed h.kR j e
    rw [hc] at hj
    cases hj
    rfl
  · rw [Below.heap_setCell w5 ⟨b4,0,none⟩ v1 bs (Ne.symm n4),hg.block bs h.kb (fun e=>h.kR.1 bs e.symm rfl)]
    exact h.kS
  · refine ⟨v1,acc ++ [y],⟨suf,by rw [hx]; simp,hl⟩,by simp; omega,Boxed.set _ k4,Kd.R_set ho k4 (by decide) 0 v1,Boxed.other k2 n24 _,Boxed.other k3 n34 _,hb.setCell (p:=⟨b4,0,none⟩) z4 _,by rw [hsz]; exact hkb⟩
theorem impl_ReadLog.results2 {fn:Func} {p q:Tmp} {t u:TypeId} (h:fn.results=#[.cell p t,.cell q u]) (tmps:Array Value) (P:Program) (w:World) :
    (results fn tmps).run P w=((asAddr (tmps.getD p undef)).run P w).andThen fun a w1=>((loadVar t a).run P w1).andThen fun v w2=>((asAddr (tmps.getD q undef)).run P w2).andThen fun b w3=>((loadVar u b).run P w3).andThen fun v' w4=>.ok (.tuple #[v,v']) w4:=by
  simp only [results,h]
  simp [Sem.run_bind,Result.andThen]
theorem impl_ReadLog.ends {W:World} {b2 b3 n c0:Nat} {A0:Option Addr} {c:Int} {tmps:Array Value} (k2:Boxed W b2 25 (.slice A0 n c0)) (k3:Boxed W b3 2 (.int .i64 c)) (h2:tmps.getD 2 undef=.pointer (some ⟨b2,0,none⟩)) (h3:tmps.getD 3 undef=.pointer (some ⟨b3,0,none⟩)) :
    (results Tryz.f6 tmps).run Tryz.prog W=.ok (.tuple #[.slice A0 n c0,.int .i64 c]) W:=by
  rw [impl_ReadLog.results2 rfl,h2,h3]
  have hc2:=k2.cell
  have hc3:=k3.cell
  go_simp
theorem impl_ReadLog.leave {w W:World} {b2 b3 D n c0:Nat} {A0:Option Addr} {c:Int} {v0:Value} {r1:List S41} {ok:Nat→Prop} (hb2:w.heap.size≤b2) (hb3:w.heap.size≤b3) (hD:w.heap.size≤D) (n23:b2≠b3) (d2:b2≠D) (d3:b3≠D) (hB:Below w.heap.size w W) (hR:Kd.R k41 41 W w.heap.size ok (.slice A0 n c0) r1)
    (k2:Boxed W b2 25 v0) (k3:Boxed W b3 2 (.int .i64 0)) (hK:W.heap[D]?=some (.deferred (some []))) :
    ((W.setCell ⟨b2,0,none⟩ (.slice A0 n c0)).setCell ⟨b3,0,none⟩ (.int .i64 c)).heap[D]?=some (.deferred (some [])) ∧
    (∀ tmps:Array Value,tmps.getD 2 undef=.pointer (some ⟨b2,0,none⟩)→tmps.getD 3 undef=.pointer (some ⟨b3,0,none⟩)→∃ v,(results Tryz.f6 tmps).run Tryz.prog (((W.setCell ⟨b2,0,none⟩ (.slice A0 n c0)).setCell ⟨b3,0,none⟩ (.int .i64 c)).putObj D (.deferred none))=.ok v (((W.setCell ⟨b2,0,none⟩ (.slice A0 n c0)).setCell ⟨b3,0,none⟩ (.int .i64 c)).putObj D (.deferred none)) ∧
      ∃ v0_,Ending.returned v=.returned (.tuple #[v0_,.int .i64 c])∧Kd.R k41 41 (((W.setCell ⟨b2,0,none⟩ (.slice A0 n c0)).setCell ⟨b3,0,none⟩ (.int .i64 c)).putObj D (.deferred none)) w.heap.size (fun _=>True) v0_ r1 ∧
        Below w.heap.size w (((W.setCell ⟨b2,0,none⟩ (.slice A0 n c0)).setCell ⟨b3,0,none⟩ (.int .i64 c)).putObj D (.deferred none))):=by
  have hK2:((W.setCell ⟨b2,0,none⟩ (.slice A0 n c0)).setCell ⟨b3,0,none⟩ (.int .i64 c)).heap[D]?=some (.deferred (some [])):=((KeepsOthers.setCell _ _ _).trans (KeepsOthers.setCell _ _ _)).same D _ hK rfl
  have k3':=Boxed.other k3 (Ne.symm n23) (.slice A0 n c0)
  have m2:=Boxed.other (Boxed.set (.slice A0 n c0) k2) n23 (.int .i64 c)
  have m3:=Boxed.set (.int .i64 c) k3'
  have hR2:=Kd.R_set (Kd.R_set hR k2 (by decide) 0 (.slice A0 n c0)) k3' (by decide) 0 (.int .i64 c)
  have hB2:=(hB.setCell (p:=⟨b2,0,none⟩) hb2 (.slice A0 n c0)).setCell (p:=⟨b3,0,none⟩) hb3 (.int .i64 c)
  refine ⟨hK2,?_⟩
  generalize ((W.setCell ⟨b2,0,none⟩ (.slice A0 n c0)).setCell ⟨b3,0,none⟩ (.int .i64 c))=X at *
  have hgD:=grownBy_putObj' X D (.deferred none)
  intro tmps h2 h3
  refine ⟨_,impl_ReadLog.ends (m2.kept hgD (fun e=>d2 (by cases e; rfl))) (m3.kept hgD (fun e=>d3 (by cases e; rfl))) h2 h3,_,rfl,?_,hB2.grown hgD hB2.size (fun k e=>by cases e; exact hD)⟩
  refine Kd.R_mono (Kd.R_grown (Kd.R_bound hR2) hgD (fun k hk e=>?_)) (fun k hk=>trivial)
  obtain ⟨_,_,_,q,_,cells,hc⟩:=hk
  cases e
  rw [hK2] at hc
  cases hc
set_option maxHeartbeats 4000000 in
set_option maxRecDepth 100000 in
theorem impl_ReadLog.calls (a0:ByteArray) (r1:List S41) (r2:Int) (w:World) (henv:Env w) (h:impl_ReadLog.f a0=some (r1,r2)) :
    Calls Tryz.prog 6 #[.string a0] w fun e w'=>∃ v0_:Value,e=.returned (.tuple #[v0_,.int .i64 r2])∧Kd.R k41 41 w' w.heap.size (fun _=>True) v0_ r1∧Below w.heap.size w w':=by
  unfold impl_ReadLog.f at h
  split at h
  case isFalse=>cases h
  rename_i hsz
  obtain ⟨R,hR,h⟩:=Option.bind_eq_some_iff.mp h
  refine (callsIn_wide (n:=6)).1 ?_
  refine callsIn_of_wp_marks Tryz.func6 rfl trivial ?_ rfl
  simp only [Tryz.ntmps6,List.size_toArray,List.length_cons,List.length_nil,Nat.reduceAdd,Nat.reduceSub,Array.replicate_succ,Array.replicate_zero,List.push_toArray,List.append_toArray,List.nil_append,List.cons_append]
  gi_wp2_with (refine ⟨trivial,?_⟩; gi_at_call 24; refine (callsIn_wide.2 (impl_ReadLog.makes a0 _)).mono ?_; rintro e w' ⟨rfl,rfl⟩)
  obtain ⟨s0,rfl⟩:∃ s0:List UInt8,a0=⟨s0.toArray⟩:=⟨a0.data.toList,by simp⟩
  have hs0:s0.length≤4294967280:=by
    have:(⟨s0.toArray⟩:ByteArray).size=s0.length:=by simp [ByteArray.size]
    omega
  have hl0:impl_ReadLog.l0 (impl_ReadLog.lines s0) []=some R:=hR
  clear hR hsz
  have k2:Boxed _ _ _ _:=((((Boxed.new w 25 (.slice none 0 0)).alloc (.cells #[.int .i64 0] 2)).alloc (.cells #[] 41)).alloc (.cells #[.slice (some ⟨w.heap.size + 1 + 1,0,none⟩) 0 0] 25)).alloc (.cells #[.string ⟨s0.toArray⟩] 9)
  have k3:Boxed _ _ _ _:=(((Boxed.new (w.alloc (.cells #[.slice none 0 0] 25)) 2 (.int .i64 0)).alloc (.cells #[] 41)).alloc (.cells #[.slice (some ⟨w.heap.size + 1 + 1,0,none⟩) 0 0] 25)).alloc (.cells #[.string ⟨s0.toArray⟩] 9)
  have k4:Boxed _ _ _ _:=(Boxed.new (((w.alloc (.cells #[.slice none 0 0] 25)).alloc (.cells #[.int .i64 0] 2)).alloc (.cells #[] 41)) 25 (.slice (some ⟨w.heap.size + 1 + 1,0,none⟩) 0 0)).alloc (.cells #[.string ⟨s0.toArray⟩] 9)
  have k5:Boxed _ _ _ _:=Boxed.new ((((w.alloc (.cells #[.slice none 0 0] 25)).alloc (.cells #[.int .i64 0] 2)).alloc (.cells #[] 41)).alloc (.cells #[.slice (some ⟨w.heap.size + 1 + 1,0,none⟩) 0 0] 25)) 9 (.string ⟨s0.toArray⟩)
  have k0:(((w.alloc (.cells #[.slice none 0 0] 25)).alloc (.cells #[.int .i64 0] 2)).alloc (.cells #[] 41)).heap[w.heap.size + 1 + 1]?=some (.cells #[] 41 (0,0)):=by
    have:=World.alloc_heap_new ((w.alloc (.cells #[.slice none 0 0] 25)).alloc (.cells #[.int .i64 0] 2)) (.cells #[] 41)
    rwa [World.size_alloc,World.size_alloc] at this
  have k1:=(Below.heap_alloc ((((w.alloc (.cells #[.slice none 0 0] 25)).alloc (.cells #[.int .i64 0] 2)).alloc (.cells #[] 41)).alloc (.cells #[.slice (some ⟨w.heap.size + 1 + 1,0,none⟩) 0 0] 25)) (.cells #[.string ⟨s0.toArray⟩] 9) (w.heap.size + 1 + 1) (by simp)).trans
    ((Below.heap_alloc (((w.alloc (.cells #[.slice none 0 0] 25)).alloc (.cells #[.int .i64 0] 2)).alloc (.cells #[] 41)) (.cells #[.slice (some ⟨w.heap.size + 1 + 1,0,none⟩) 0 0] 25) (w.heap.size + 1 + 1) (by simp)).trans k0)
  have kB:Below w.heap.size w (((((w.alloc (.cells #[.slice none 0 0] 25)).alloc (.cells #[.int .i64 0] 2)).alloc (.cells #[] 41)).alloc (.cells #[.slice (some ⟨w.heap.size + 1 + 1,0,none⟩) 0 0] 25)).alloc (.cells #[.string ⟨s0.toArray⟩] 9)) :=
    (((((Below.refl w.heap.size w).alloc (Nat.le_refl _) _).alloc (by simp) _).alloc (by simp only [World.size_alloc]; omega) _).alloc (by simp only [World.size_alloc]; omega) _).alloc (by simp only [World.size_alloc]; omega) _
  simp only [World.size_alloc] at k3 k4 k5
  have ksz:(((((w.alloc (.cells #[.slice none 0 0] 25)).alloc (.cells #[.int .i64 0] 2)).alloc (.cells #[] 41)).alloc (.cells #[.slice (some ⟨w.heap.size + 1 + 1,0,none⟩) 0 0] 25)).alloc (.cells #[.string ⟨s0.toArray⟩] 9)).heap.size=w.heap.size + 5:=by simp
  generalize (((((w.alloc (.cells #[.slice none 0 0] 25)).alloc (.cells #[.int .i64 0] 2)).alloc (.cells #[] 41)).alloc (.cells #[.slice (some ⟨w.heap.size + 1 + 1,0,none⟩) 0 0] 25)).alloc (.cells #[.string ⟨s0.toArray⟩] 9))=W0 at *
  obtain ⟨b2,e2⟩:∃ b,w.heap.size=b:=⟨_,rfl⟩
  obtain ⟨b3,e3⟩:∃ b,w.heap.size + 1=b:=⟨_,rfl⟩
  obtain ⟨b1,e1⟩:∃ b,w.heap.size + 1 + 1=b:=⟨_,rfl⟩
  obtain ⟨b4,e4⟩:∃ b,w.heap.size + 1 + 1 + 1=b:=⟨_,rfl⟩
  obtain ⟨bs,e5⟩:∃ b,w.heap.size + 1 + 1 + 1 + 1=b:=⟨_,rfl⟩
  have z1:w.heap.size≤b2∧w.heap.size≤b3∧w.heap.size≤b4∧w.heap.size≤b1∧b2≠bs∧b3≠bs∧b4≠bs∧b1≠bs∧b2≠b3∧b2≠b4∧b3≠b4∧bs < W0.heap.size∧w.heap.size≤W0.heap.size∧w.heap.size≤bs∧b3 < W0.heap.size∧w.heap.size < W0.heap.size:=by omega
  rw [e5,e4,e1,e3]
  rw [e5] at k5
  rw [e4,e1] at k4
  rw [e3] at k3
  rw [e1] at k1
  have k2':Boxed W0 b2 25 (.slice none 0 0):=e2 ▸ k2
  obtain ⟨z2,z3,z4,z5,n2,n3,n4,n1,n23,n24,n34,hbs,hszW,z6,z7,z8⟩:=z1
  clear k0 k2 ksz e1 e3 e4 e5
  subst e2
  have hR0:Kd.R k41 41 W0 w.heap.size (fun k=>k≠bs) (.slice (some ⟨b1,0,none⟩) 0 0) [] :=
    ⟨fun k hk=>by simp only [Value.ownBlock,Option.some.injEq] at hk; omega,[],⟨by simp,.inr ⟨b1,0,#[],rfl,z5,k1,by simp,by simp [maxLen],by simp,by simp⟩⟩,Reps.none _ _⟩
  have hI0:impl_ReadLog.I w w.heap.size b3 b4 bs s0 R [] W0:=⟨_,[],⟨_,rfl,hl0⟩,by simp,k4,hR0,k2',k3,kB,hbs⟩
  refine impl_ReadLog.range_boxed (w:=W0) (n:=6) rfl (by omega) (gf:=53) (lb:=#[.pointer (some ⟨bs,0,none⟩)]) rfl trivial (fun args w=>enters_ Tryz.func53 zq18 rfl args w) (encs:=fun x:List UInt8=>#[.string ⟨x.toArray⟩]) (fun _=>rfl)
    (ok:=fun pre x=>∃ suf,impl_ReadLog.lines s0=pre ++ x :: suf) (S:=fun xs=>xs=impl_ReadLog.lines s0) (box:=bs) hbs
    (fun l J Jx W hW hJ hJx hY h0=>impl_ReadLog.iter 5 l bs s0 J Jx hJ hY W (hW.trans k5) h0 hs0)
    (impl_ReadLog.I w w.heap.size b3 b4 bs s0 R) (impl_ReadLog.Ix w w.heap.size b3 bs R)
    (fun s A B row hs hg hr=>impl_ReadLog.I_kept n2 n3 n4 hs hg (impl_ReadLog.non_cells hszW hr))
    (fun s A B row hs hg hr=>impl_ReadLog.Ix_kept n2 n3 hs hg (impl_ReadLog.non_cells hszW hr))
    (fun s A B hs hg=>impl_ReadLog.I_kept n2 n3 n4 hs hg (fun r e=>by cases e; exact ⟨by omega,.inl rfl⟩))
    (fun s A B hs hg=>impl_ReadLog.Ix_kept n2 n3 hs hg (fun r e=>by cases e; exact ⟨by omega,.inl rfl⟩))
    hI0
    (fun x=>{ tmps:=#[.string ⟨s0.toArray⟩,undef,.pointer (some ⟨w.heap.size,0,none⟩),.pointer (some ⟨b3,0,none⟩),.pointer (some ⟨b4,0,none⟩),.string ⟨x.toArray⟩,undef,undef,undef,undef,undef,.slice (some ⟨b1,0,none⟩) 0 0,.string ⟨s0.toArray⟩,.func (.func 53) #[] #[.pointer (some ⟨bs,0,none⟩)],.string ⟨x.toArray⟩,undef,undef,undef,undef,undef,undef,undef,undef,undef,undef,undef,undef,undef,undef,undef,undef,undef,undef,undef,undef,undef,undef,undef,undef,undef,undef,undef,undef,undef,undef,undef,undef,undef,undef,undef,undef,undef,undef,undef,undef,undef,undef,undef,undef,undef,undef],defers:=[] }) ?assign ?body ?done ?stop
  case assign =>
    intro l x W K hK
    gi_wp2
    exact hK
  case body =>
    rintro l pre x W ⟨v,acc,⟨suf,hsuf,hl⟩,hn,k4,hR1,k2,k3,hB,hb⟩ ⟨suf',hx⟩
    obtain rfl:suf=x :: suf':=List.append_cancel_left (hsuf.symm.trans hx)
    have hM:impl_ReadLog.M w w.heap.size b3 b4 bs v acc W W:=⟨k4,hR1,k2,k3,hB,hb,KeepsOthers.refl _,rfl⟩
    clear k4 hR1 k2 k3 hB hb
    simp only [impl_ReadLog.l0] at hl
    obtain ⟨o,hone,hl_⟩:=Option.bind_eq_some_iff.mp hl
    clear hl
    have hl:=hl_
    clear hl_
    unfold impl_ReadLog.one at hone
    obtain ⟨tx,htx,hone_⟩:=Option.bind_eq_some_iff.mp hone
    clear hone
    obtain ⟨ws,hws,hone⟩:=Option.bind_eq_some_iff.mp hone_
    clear hone_
    gi_wp2_with (fail)
    refine ⟨trivial,?_⟩
    refine (CallsIn.inRound l (callsIn_wide.2 (strings_TrimSuffix.calls _ _ tx _ htx))).mono ?_
    rintro e W1 ⟨rfl,hd⟩
    replace hM:=impl_ReadLog.M_below hM hd.below
    clear hd
    gi_wp2_with (fail)
    refine ⟨trivial,?_⟩
    refine (CallsIn.inRound l (callsIn_wide.2 (strings_Split.calls _ _ ws _ (Env_on henv hM.kB) hws))).mono ?_
    rintro e W2 ⟨v0,rfl,hO,hb⟩
    replace hM:=impl_ReadLog.M_below hM hb
    clear hb
    obtain ⟨Aw,cw,rfl⟩:=Kd.R_slice hO
    obtain ⟨Av,cv,rfl⟩:=Kd.R_slice hM.kR
    have hc4:=hM.k4.cell
    have hc2:=hM.k2.cell
    have hf2:=hM.k2.frozen
    have hc3:=hM.k3.cell
    have hf3:=hM.k3.frozen
    by_cases c3:ws.length=3
    · rw [if_pos c3] at hone
      obtain ⟨u0,u1,u2,rfl⟩:∃ u0 u1 u2,ws=[u0,u1,u2]:=by
        rcases ws with _|⟨u0,_|⟨u1,_|⟨u2,_|⟨u3,r⟩⟩⟩⟩ <;> simp at c3
        exact ⟨u0,u1,u2,rfl⟩
      by_cases c60:acc.length=60
      · rw [if_pos c60] at hone
        cases hone
        obtain rfl:R=none:=(Option.some.inj hl).symm
        have c60':(acc.length:Int)=60:=by omega
        gi_wp2_with (fail)
        exact impl_ReadLog.out hM z2 z3 n23
      · rw [if_neg c60] at hone
        have c60':¬ (acc.length:Int)=60:=by omega
        have c60b:((acc.length:Int) == 60)=false:=beq_eq_false_iff_ne.2 c60'
        obtain ⟨⟨p1,p2⟩,hp,hone_⟩:=Option.bind_eq_some_iff.mp hone
        clear hone
        obtain ⟨⟨q1,q2⟩,hq,hone⟩:=Option.bind_eq_some_iff.mp hone_
        clear hone_
        replace hp:impl_number.f u0 100000=some (p1,p2):=hp
        replace hq:impl_number.f u2 9999=some (q1,q2):=hq
        obtain ⟨ad,e0,hx0⟩:=Kd.at_string (Kd.R_reads' hO).2.2 0 (by omega) (by simp)
        cases e0
        obtain ⟨ad',e0,hx1⟩:=Kd.at_string (Kd.R_reads' hO).2.2 1 (by omega) (by simp)
        cases e0
        obtain ⟨ad',e0,hx2⟩:=Kd.at_string (Kd.R_reads' hO).2.2 2 (by omega) (by simp)
        cases e0
        replace hx0:W2.cell? (ad.add 0)=some (.string u0):=hx0
        rw [Addr.add_zero'] at hx0
        have ea1:ad.add 1={ ad with off:=ad.off + 1,spot:=none }:=by simp [Addr.add]
        have ea2:ad.add 2={ ad with off:=ad.off + 2,spot:=none }:=by simp [Addr.add]
        replace hx1:W2.cell? { ad with off:=ad.off + 1,spot:=none }=some (.string u1):=by
          rw [← ea1]
          exact hx1
        replace hx2:W2.cell? { ad with off:=ad.off + 2,spot:=none }=some (.string u2):=by
          rw [← ea2]
          exact hx2
        gi_wp2_with (fail)
        refine ⟨trivial,?_⟩
        refine (CallsIn.inRound l (callsIn_wide.2 (impl_number.calls _ _ p1 p2 _ (Env_on henv hM.kB) hp))).mono ?_
        rintro e W3 ⟨rfl,hb⟩
        replace hM:=impl_ReadLog.M_below hM hb
        replace hx1:=(hb.cell (World.block_lt_of_cell? W2 _ hx1)).trans hx1
        replace hx2:=(hb.cell (World.block_lt_of_cell? W2 _ hx2)).trans hx2
        clear hb hx0 hc4 hc2 hf2 hc3 hf3 hO
        gi_wp2_with (fail)
        refine ⟨trivial,?_⟩
        refine (CallsIn.inRound l (callsIn_wide.2 (impl_number.calls _ _ q1 q2 _ (Env_on henv hM.kB) hq))).mono ?_
        rintro e W4 ⟨rfl,hb⟩
        replace hM:=impl_ReadLog.M_below hM hb
        replace hx1:=(hb.cell (World.block_lt_of_cell? W3 _ hx1)).trans hx1
        clear hb hx2
        have hc4:=hM.k4.cell
        have hf4:=hM.k4.frozen
        have hc2:=hM.k2.cell
        have hf2:=hM.k2.frozen
        have hc3:=hM.k3.cell
        have hf3:=hM.k3.frozen
        by_cases hpq:p2=true∧q2=true
        · rw [if_pos hpq] at hone
          obtain ⟨rfl,rfl⟩:=hpq
          simp only [Option.some.injEq] at hone
          subst hone
          gi_wp2_with (fail)
          replace hM:=impl_ReadLog.M_below hM (below_drew1 (Below.refl W4.heap.size W4))
          replace hc4:W4.drew.cell? ⟨b4,0,none⟩=some (.slice Av acc.length cv):=hc4
          replace hf4:W4.drew.frozen? ⟨b4,0,none⟩=false:=hf4
          replace hx1:W4.drew.cell? { ad with off:=ad.off + 1,spot:=none }=some (.string u1):=hx1
          clear hc2 hf2 hc3 hf3
          --REGION
          refine impl_ReadLog.start_in (n:=11) (S:=fun w'=>w'.cell? ⟨b4,0,none⟩=some (.slice Av acc.length cv)∧w'.cell? { ad with off:=ad.off + 1,spot:=none }=some (.string u1)) (ds:=[9,10]) #[false,false,false,false,false,false,false,false,false,false,false] zq18 zq18 (fun _ _ h=>h) rfl rfl ⟨hc4,hx1⟩ (fun hHeld=>?_)
          generalize W4.drew=WD at hM hc4 hf4 hx1 hHeld ⊢
          refine pure_ (i:=1) (N:=some 47) (v:=?_) (a':=?_) #[false,true,false,false,false,false,false,false,false,false,false] rfl rfl zq18 (fun _ _ _ h=>h) (Or.inl ⟨by rfl,?_⟩) ?_ ?_
          rotate_left
          · intro w'
            go_simp
            with_reducible rfl
          rotate_left
          · simp only [Act.put,List.setIfInBounds_toArray,List.set_cons_zero,List.set_cons_succ,i64_w,i32_w]
            rfl
          refine pure_ (i:=2) (N:=some 48) (v:=?_) (a':=?_) #[false,true,true,false,false,false,false,false,false,false,false] rfl rfl zq18 (fun _ _ _ h=>h) (Or.inl ⟨by rfl,?_⟩) ?_ ?_
          rotate_left
          · intro w'
            go_simp
            with_reducible rfl
          rotate_left
          · simp only [Act.put,List.setIfInBounds_toArray,List.set_cons_zero,List.set_cons_succ,i64_w,i32_w]
            rfl
          refine pure_ (i:=3) (N:=some 49) (v:=?_) (a':=?_) #[false,true,true,true,false,false,false,false,false,false,false] rfl rfl zq18 (fun _ _ _ h=>h) (Or.inl ⟨by rfl,?_⟩) ?_ ?_
          rotate_left
          · intro w'
            go_simp
            with_reducible rfl
          rotate_left
          · simp only [Act.put,List.setIfInBounds_toArray,List.set_cons_zero,List.set_cons_succ,i64_w,i32_w]
            rfl
          refine pure_ (i:=4) (N:=some 50) (v:=?_) (a':=?_) #[false,true,true,true,true,false,false,false,false,false,false] rfl rfl zq18 (fun _ _ _ h=>h) (Or.inl ⟨by rfl,?_⟩) ?_ ?_
          rotate_left
          · intro w'
            go_simp
            with_reducible rfl
          rotate_left
          · simp only [Act.put,List.setIfInBounds_toArray,List.set_cons_zero,List.set_cons_succ,i64_w,i32_w]
            rfl
          refine take_ (i:=0) (N:=some 46) (v:=?_) (a':=?_) #[true,true,true,true,true,false,false,false,false,false,false] rfl rfl zq18 (fun _ _ _ h=>h) (Or.inl ⟨by rfl,?_⟩) hHeld ?_ ?_
          rotate_left
          · rintro w' ⟨s0,s1⟩
            go_simp
            with_reducible rfl
          rotate_left
          · simp only [Act.put,List.setIfInBounds_toArray,List.set_cons_zero,List.set_cons_succ,i64_w,i32_w]
            rfl
          refine take_ (i:=5) (N:=some 51) (v:=?_) (a':=?_) #[true,true,true,true,true,true,false,false,false,false,false] rfl rfl zq18 (fun _ _ _ h=>h) (Or.inl ⟨by rfl,?_⟩) hHeld ?_ ?_
          rotate_left
          · rintro w' ⟨s0,s1⟩
            go_simp
            with_reducible rfl
          rotate_left
          · simp only [Act.put,List.setIfInBounds_toArray,List.set_cons_zero,List.set_cons_succ,i64_w,i32_w]
            rfl
          refine pure_ (i:=6) (N:=some 52) (v:=?_) (a':=?_) #[true,true,true,true,true,true,true,false,false,false,false] rfl rfl zq18 (fun _ _ _ h=>h) (Or.inl ⟨by rfl,?_⟩) ?_ ?_
          rotate_left
          · intro w'
            go_simp
            with_reducible rfl
          rotate_left
          · simp only [Act.put,List.setIfInBounds_toArray,List.set_cons_zero,List.set_cons_succ,i64_w,i32_w]
            rfl
          refine pure_ (i:=7) (N:=some 53) (v:=?_) (a':=?_) #[true,true,true,true,true,true,true,true,false,false,false] rfl rfl zq18 (fun _ _ _ h=>h) (Or.inl ⟨by rfl,?_⟩) ?_ ?_
          rotate_left
          · intro w'
            go_simp
            with_reducible rfl
          rotate_left
          · simp only [Act.put,List.setIfInBounds_toArray,List.set_cons_zero,List.set_cons_succ,i64_w,i32_w]
            rfl
          refine one_ (i:=8) (N:=some 54) #[true,true,true,true,true,true,true,true,true,false,false] rfl rfl zq18 (by decide) (fun K hK=>?_)
          refine value_ (w1:=?_) (v:=?_) (by rfl) rfl ?_ ?_
          rotate_left 2
          · go_simp
            constructor
            · rfl
            · rfl
          refine hK.out _ _ ⟨((below_alloc (Below.refl WD.heap.size WD) _).cell (World.block_lt_of_cell? WD _ hc4)).trans hc4,((below_alloc (Below.refl WD.heap.size WD) _).cell (World.block_lt_of_cell? WD _ hx1)).trans hx1⟩ (fun hHeld=>?_)
          clear hK K
          refine norm_ (a':=?_) ?_ ?_
          rotate_left
          · show Act.put _ (some 54) _=_
            simp only [Act.put,List.setIfInBounds_toArray,List.set_cons_zero,List.set_cons_succ,i64_w,i32_w]
            rfl
          refine last_ (i:=9) (N:=some 55) #[true,true,true,true,true,true,true,true,true,true,false] rfl rfl zq18 (by decide) (fun K hK=>?_)
          refine Kd.R_append_step k41 (w0:=w) w.heap.size (by rfl) (.tmp 46) (.tmp 54) 25 41 (.agg #[(.int .i64 0),(.int .i64 0),(.bool false)]) 24 (by rfl) Tryz.underlying25 info41 rfl (by decide) (by omega) _ acc (⟨p1,q1,u1.toList == [100,111,119,110]⟩:S41) [.int .i64 p1,.int .i64 q1,.bool (u1.toList == [100,111,119,110])] (fun k=>k≠bs) (fun _=>False) (by rfl) (by rfl) ?aP (fun _ hk=>hk.elim) ?aF ?aO ?aB ?aS ?aL ?_
          (case aP=>exact k41_mkM _ _ _ (⟨p1,q1,u1.toList == [100,111,119,110]⟩:S41))
          (case aF=>exact fun k hk=>by have:=hM.kb; omega)
          (case aO=>exact hM.kR)
          (case aB=>exact hM.kB)
          (case aS=>exact hM.kB.size)
          (case aL=>omega)
          intro v1 w5 ho hb hg hat
          obtain ⟨A9,c9,e9⟩:=Kd.R_slice ho
          subst e9
          have hk4:=hM.k4.kept hg (Kd.R_ne hM.kR hM.k4 (by decide))
          have hc5:=hk4.cell
          have hf5:=hk4.frozen
          refine hK.out _ _ ?_
          clear hK K
          refine norm_ (a':=?_) ?_ ?_
          rotate_left
          · show Act.put _ (some 55) _=_
            simp only [Act.put,List.setIfInBounds_toArray,List.set_cons_zero,List.set_cons_succ,i64_w,i32_w]
            rfl
          refine last_ (i:=10) (N:=none) #[true,true,true,true,true,true,true,true,true,true,true] rfl rfl zq18 (by decide) (fun K hK=>?_)
          refine skip_ (w1:=?_) (by rfl) rfl ?_ ?_
          rotate_left
          · go_simp
            rfl
          refine hK.out _ _ ?_
          clear hK K
          refine done_ zq18 ?_
          --END
          rw [List.length_append] at ho
          exact impl_ReadLog.goes hM hg ho hb z4 n24 n34 hx (by omega) hl n4
        · rw [if_neg hpq] at hone
          cases hone
          obtain rfl:R=none:=(Option.some.inj hl).symm
          cases p2 with
          | false =>
            gi_wp2_with (fail)
            exact impl_ReadLog.out hM z2 z3 n23
          | true =>
            cases q2 with
            | false =>
              gi_wp2_with (fail)
              exact impl_ReadLog.out hM z2 z3 n23
            | true=>exact absurd ⟨rfl,rfl⟩ hpq
    · rw [if_neg c3] at hone
      cases hone
      obtain rfl:R=none:=(Option.some.inj hl).symm
      have c3':¬ (ws.length:Int)=3:=by omega
      gi_wp2_with (fail)
      exact impl_ReadLog.out hM z2 z3 n23
  case done =>
    rintro D xs W hD rfl ⟨v,acc,⟨suf,hsuf,hl⟩,hn,k4,hR1,k2,k3,hB,hb⟩ hK
    obtain rfl:suf=[]:=by simpa using hsuf
    obtain rfl:R=some acc:=by simpa [impl_ReadLog.l0] using hl.symm
    obtain ⟨t,ht,h⟩:=Option.bind_eq_some_iff.mp h
    obtain ⟨Av,cv,rfl⟩:=Kd.R_slice hR1
    obtain ⟨_,hle,hC⟩:=Kd.R_reads' hR1
    have hc4:=k4.cell
    gi_wp2_with (fail)
    refine ⟨trivial,?_⟩
    refine (callsIn_wide.2 (impl_LogText.calls Av cv acc t _ hC hle (Env_on henv hB) ht)).mono ?_
    rintro e W1 ⟨rfl,hb1⟩
    have hK1:W1.heap[D]?=some (.deferred (some [])):=(hb1.block _ (Array.getElem?_eq_some_iff.1 hK).1).trans hK
    replace hB:=hB.trans (hb1.mono hB.size)
    replace hR1:=Kd.R_below hR1 hb1
    replace k2:Boxed W1 w.heap.size 25 (.slice none 0 0):=(hb1.block _ k2.lt).trans k2
    replace k3:Boxed W1 b3 2 (.int .i64 0):=(hb1.block _ k3.lt).trans k3
    replace k4:Boxed W1 b4 25 (.slice Av acc.length cv):=(hb1.block _ k4.lt).trans k4
    clear hb1 hK hC hc4
    have hc4:=k4.cell
    have hc2:=k2.cell
    have hf2:=k2.frozen
    have hc3:=k3.cell
    have hf3:=k3.frozen
    have nD:∀ {b:Nat},b≠D→some b≠some D:=fun h e=>h (by cases e; rfl)
    have es:(⟨s0.toArray⟩:ByteArray).toList=s0:=by simp
    rw [es] at h
    by_cases ct:t.toList=s0
    · rw [if_pos ct] at h
      simp only [Option.some.injEq,Prod.mk.injEq] at h
      obtain ⟨rfl,rfl⟩:=h
      have cb:(t.toList == s0)=true:=beq_iff_eq.mpr ct
      gi_wp2_with (fail)
      obtain ⟨hK2,hfin⟩:=impl_ReadLog.leave (c:=0) (Nat.le_refl _) z3 (Nat.le_trans hszW hD) n23 (by omega) (by omega) hB hR1 k2 k3 hK1
      refine ⟨by simp,.inl ⟨_,_,rfl,run_takeDeferred hK2,?_⟩⟩
      exact hfin _ rfl rfl
    · rw [if_neg ct] at h
      simp only [Option.some.injEq,Prod.mk.injEq] at h
      obtain ⟨rfl,rfl⟩:=h
      have cb:(t.toList == s0)=false:=beq_eq_false_iff_ne.mpr ct
      gi_wp2_with (fail)
      obtain ⟨hK2,hfin⟩:=impl_ReadLog.leave (c:=5) (Nat.le_refl _) z3 (Nat.le_trans hszW hD) n23 (by omega) (by omega) hB (Kd.R_nil k41 41 W1 w.heap.size (fun _=>True)) k2 k3 hK1
      refine ⟨by simp,.inl ⟨_,_,rfl,run_takeDeferred hK2,?_⟩⟩
      exact hfin _ rfl rfl
  case stop =>
    rintro D pre W hD ⟨hRn,k2,k3,hB⟩ hK
    subst hRn
    simp only [Option.some.injEq,Prod.mk.injEq] at h
    obtain ⟨rfl,rfl⟩:=h
    gi_wp2_with (fail)
    refine ⟨by simp,.inl ⟨_,_,rfl,run_takeDeferred hK,?_⟩⟩
    have hgD:=grownBy_putObj' W D (.deferred none)
    have nD:∀ {b:Nat},b≠D→some b≠some D:=fun h e=>h (by cases e; rfl)
    have m2:=k2.kept hgD (nD (by omega))
    have m3:=k3.kept hgD (nD (by omega))
    exact ⟨_,impl_ReadLog.ends m2 m3 rfl rfl,_,rfl,Kd.R_nil _ _ _ _ _,hB.grown hgD hB.size (fun k e=>by cases e; omega)⟩
end Go.Proofs.YtmcfbnglocojkabGreatDoor.G
end
section
namespace Go.Proofs.YtmcfbnglocojkabGreatDoor.G
open Go.RowKit Go.Proofs.YtmcfbnglocojkabGreatDoorW.PrintWords Go.Proofs.YtmcfbnglocojkabGreatDoorW.PrintLast Go.Proofs.YtmcfbnglocojkabGreatDoorW.PrintMore
attribute [local go_sem] max2_int min2_int max_two min_two max_three min_three max_four min_four
set_option linter.unusedVariables false
set_option linter.unusedSimpArgs false
attribute [local go_sem high] eqA41
def slices_Equal_Log_Entry.l0:Nat→List (S41)→List (S41)→Int→Int→Option (Bool)
 | 0,_,_,_,_=>none
 | k + 1,x0,x1,x12,x13=>if x13 < x12 then (if 0≤x13 then (if x13 < (x0.length:Int) then (if x13 < (x1.length:Int) then (if (!(((rd_T41 x0 x13).f0) == ((rd_T41 x1 x13).f0)) || (!(((rd_T41 x0 x13).f1) == ((rd_T41 x1 x13).f1)) || (!(((rd_T41 x0 x13).f2) == ((rd_T41 x1 x13).f2)))))=true then (some false) else (slices_Equal_Log_Entry.l0 k x0 x1 x12 (wrap64 (x13 + 1)))) else (none)) else (none)) else (none)) else (some true)
def slices_Equal_Log_Entry.f (k:Nat) (l0:List (S41)) (l1:List (S41)):Option (Bool):=if (l0.length:Int)=(l1.length:Int) then (slices_Equal_Log_Entry.l0 k l0 l1 (l0.length:Int) 0) else (some false)
set_option maxHeartbeats 8000000 in
set_option maxRecDepth 100000 in
theorem slices_Equal_Log_Entry.calls (k:Nat) (A0:Option Addr) (c0:Nat) (l0:List (S41)) (A1:Option Addr) (c1:Nat) (l1:List (S41)) (r:Bool) (w:World) (hr0:Kd.C k41 w A0 l0.length l0) (hc0:l0.length≤c0) (hr1:Kd.C k41 w A1 l1.length l1) (hc1:l1.length≤c1) (h:slices_Equal_Log_Entry.f k l0 l1=some r) :
  Calls Tryz.prog 43 #[.slice A0 l0.length c0,.slice A1 l1.length c1] w fun e w'=>e=.returned (.bool r)∧Drawn0 w w':=by
 have hu41:=Tryz.underlying41;have HR0:=am hr0;have HC0:=am hc0;clear hr0 hc0;have HR1:=am hr1;have HC1:=am hc1;clear hr1 hc1;have H:(if (l0.length:Int)=(l1.length:Int) then (slices_Equal_Log_Entry.l0 k l0 l1 (l0.length:Int) 0) else (some false))=some r:=h;clear h
 by_cases c3:(l0.length:Int)=(l1.length:Int)
 ·rw [if_pos c3] at H;have c3b0:=beq_iff_eq.mpr c3;have c3b1:=bne_eq_false_iff_eq.mpr c3
  have c3b2:(l0.length == l1.length)=true:=by first|simpa using c3|(simp at c3 ⊢;omega)
  clear c3;have H':=am H;clear H
  go_enter Tryz.func43,Tryz.ntmps43
  go_wp2
  repeat (go_quiet (fail);try go_wp2)
  go_loopg [13] k (fun kq v13 w'=>∃ (x13_1:Int),v13=.int .i64 x13_1∧Aside0 (slices_Equal_Log_Entry.l0 kq l0 l1 (l0.length:Int) x13_1=some r)∧Aside0 (kq≤k)∧Drawn0 w w')
  case atStart=>exact ⟨(0),zq2,H',⟨Nat.le_refl _⟩,by repeat (first|exact Drawn0.refl _|apply Drawn0.step)⟩
  case round =>
   clear H';(try clear c1);(try clear p2);(try clear c3);(try clear c3b0);(try clear c3b1);(try clear c3b2);obtain ⟨x13_1,rfl,HA,HK1,⟨m1,rfl⟩⟩:=hrel
   cases gk with
   | zero=>exact absurd HA.out (by simp [slices_Equal_Log_Entry.l0])
   | succ k1 =>
    have H:=HA.out;clear HA;simp only [slices_Equal_Log_Entry.l0] at H
    by_cases c4:x13_1 < (l0.length:Int)
    ·rw [if_pos c4] at H;have c4b0:=decide_eq_true c4;clear c4
     by_cases c5:0≤x13_1
     ·rw [if_pos c5] at H;have c5b0:=decide_eq_true c5;clear c5
      by_cases c6:x13_1 < (l0.length:Int)
      ·rw [if_pos c6] at H;have c6b0:=decide_eq_true c6;clear c6
       by_cases c7:x13_1 < (l1.length:Int)
       ·rw [if_pos c7] at H;have c7b0:=decide_eq_true c7;clear c7
        by_cases c8:(!(((rd_T41 l0 x13_1).f0) == ((rd_T41 l1 x13_1).f0)) || (!(((rd_T41 l0 x13_1).f1) == ((rd_T41 l1 x13_1).f1)) || (!(((rd_T41 l0 x13_1).f2) == ((rd_T41 l1 x13_1).f2)))))=true
        ·rw [if_pos c8] at H;have c8b0:(!(((rd_T41 l0 x13_1).f0) == ((rd_T41 l1 x13_1).f0)) || (!(((rd_T41 l0 x13_1).f1) == ((rd_T41 l1 x13_1).f1)) || (!(((rd_T41 l0 x13_1).f2) == ((rd_T41 l1 x13_1).f2)))))=true:=c8;clear c8;obtain rfl:=Option.some.inj H;have p101:0≤(x13_1:Int):=of_decide_eq_true zq3;have q101:x13_1 < (l0.length:Int):=of_decide_eq_true zq3;obtain ⟨ad101,e101,hx101_0,hx101_1,hx101_2⟩:=at_T41 HR0.out x13_1 p101 q101;cases e101;replace p101:=eq_true p101;replace q101:=eq_true q101;have p102:0≤(x13_1:Int):=of_decide_eq_true zq3;have q102:x13_1 < (l1.length:Int):=of_decide_eq_true zq3;obtain ⟨ad102,e102,hx102_0,hx102_1,hx102_2⟩:=at_T41 HR1.out x13_1 p102 q102;cases e102;replace p102:=eq_true p102;replace q102:=eq_true q102
         go_wp2
         repeat (go_quiet (fail);try go_wp2)
         go_ret
         exact ⟨by first|rfl|(simp only [IntKind.wrap_i64,wrap64];done)|(simp;done)|(simp [*];done),by repeat (first|exact Drawn0.refl _|apply Drawn0.step)⟩
        ·rw [if_neg c8] at H
         have c8b0:(!(((rd_T41 l0 x13_1).f0) == ((rd_T41 l1 x13_1).f0)) || (!(((rd_T41 l0 x13_1).f1) == ((rd_T41 l1 x13_1).f1)) || (!(((rd_T41 l0 x13_1).f2) == ((rd_T41 l1 x13_1).f2)))))=false:=by simpa using c8
         clear c8;have H':=am H;clear H;have p101:0≤(x13_1:Int):=of_decide_eq_true zq3;have q101:x13_1 < (l0.length:Int):=of_decide_eq_true zq3;obtain ⟨ad101,e101,hx101_0,hx101_1,hx101_2⟩:=at_T41 HR0.out x13_1 p101 q101;cases e101;replace p101:=eq_true p101;replace q101:=eq_true q101;have p102:0≤(x13_1:Int):=of_decide_eq_true zq3;have q102:x13_1 < (l1.length:Int):=of_decide_eq_true zq3;obtain ⟨ad102,e102,hx102_0,hx102_1,hx102_2⟩:=at_T41 HR1.out x13_1 p102 q102;cases e102;replace p102:=eq_true p102;replace q102:=eq_true q102
         go_wp2
         repeat (go_quiet (fail);try go_wp2)
         go_roundg k1
         case measure=>have:=HK1.out;omega
         case rel=>exact ⟨(wrap64 (x13_1 + 1)),zq2,H',⟨by have:=HK1.out;omega⟩,by repeat (first|exact Drawn0.refl _|apply Drawn0.step)⟩
       ·rw [if_neg c7] at H;exact absurd H (by simp)
      ·rw [if_neg c6] at H;exact absurd H (by simp)
     ·rw [if_neg c5] at H;exact absurd H (by simp)
    ·rw [if_neg c4] at H;have c4b0:=decide_eq_false c4;clear c4;obtain rfl:=Option.some.inj H
     go_wp2
     repeat (go_quiet (fail);try go_wp2)
     go_ret
     exact ⟨by first|rfl|(simp only [IntKind.wrap_i64,wrap64];done)|(simp;done)|(simp [*];done),by repeat (first|exact Drawn0.refl _|apply Drawn0.step)⟩
 ·rw [if_neg c3] at H;have c3b0:=beq_eq_false_iff_ne.mpr c3;have c3b1:=bne_iff_ne.mpr c3
  have c3b2:(l0.length == l1.length)=false:=by first|simpa using c3|(simp at c3 ⊢;omega)
  obtain rfl:=Option.some.inj H
  go_enter Tryz.func43,Tryz.ntmps43
  go_wp2
  repeat (go_quiet (fail);try go_wp2)
  go_ret
  exact ⟨by first|rfl|(simp only [IntKind.wrap_i64,wrap64];done)|(simp;done)|(simp [*];done),by repeat (first|exact Drawn0.refl _|apply Drawn0.step)⟩
end Go.Proofs.YtmcfbnglocojkabGreatDoor.G
end
section
namespace Go.Proofs.YtmcfbnglocojkabGreatDoor.G
open Go.RowKit Go.Proofs.YtmcfbnglocojkabGreatDoorW.PrintWords Go.Proofs.YtmcfbnglocojkabGreatDoorW.PrintLast Go.Proofs.YtmcfbnglocojkabGreatDoorW.PrintMore
attribute [local go_sem] max2_int min2_int max_two min_two max_three min_three max_four min_four
set_option linter.unusedVariables false
set_option linter.unusedSimpArgs false
def impl_SameLog.f (k:Nat) (l0:List (S41)) (l1:List (S41)):Option (Bool):=(slices_Equal_Log_Entry.f k l0 l1).bind fun t101=>(some t101)
set_option maxHeartbeats 8000000 in
set_option maxRecDepth 100000 in
theorem impl_SameLog.calls (k:Nat) (A0:Option Addr) (c0:Nat) (l0:List (S41)) (A1:Option Addr) (c1:Nat) (l1:List (S41)) (r:Bool) (w:World) (hr0:Kd.C k41 w A0 l0.length l0) (hc0:l0.length≤c0) (hr1:Kd.C k41 w A1 l1.length l1) (hc1:l1.length≤c1) (h:impl_SameLog.f k l0 l1=some r) :
  Calls Tryz.prog 15 #[.slice A0 l0.length c0,.slice A1 l1.length c1] w fun e w'=>e=.returned (.bool r)∧Drawn0 w w':=by
 have HR0:=am hr0;have HC0:=am hc0;clear hr0 hc0;have HR1:=am hr1;have HC1:=am hc1;clear hr1 hc1;have H:((slices_Equal_Log_Entry.f k l0 l1).bind fun t101=>(some t101))=some r:=h;clear h;replace H:=Option.bind_eq_some_iff.mp H;obtain ⟨t101,A30,H⟩:=H;replace H:(some t101)=some r:=H;have A3:=am A30;clear A30;obtain rfl:=Option.some.inj H
 go_enter Tryz.func15,Tryz.ntmps15
 go_wp2_with (first|((with_reducible refine gate_callee (f:=43) rfl ?_);refine goesL_ (some 7) rfl rfl Tryz.func43 zq18 rfl #[.slice A0 l0.length c0,.slice A1 l1.length c1] rfl zq1 ?_;(with_reducible refine (slices_Equal_Log_Entry.calls k _ _ l0 _ _ l1 t101 _ ?side1 ?side2 ?side3 ?side4 A3.out).mono ?_);(case side1=>exact zq6);(case side2=>exact HC0.out);(case side3=>exact zq50);(case side4=>exact HC1.out);rintro e w' ⟨rfl,⟨nd,rfl⟩⟩;refine ⟨_,rfl,?_⟩))
 go_ret
 exact ⟨by first|rfl|(simp only [IntKind.wrap_i64,wrap64];done)|(simp;done)|(simp [*];done),by repeat (first|exact Drawn0.refl _|apply Drawn0.step)⟩
def impl_ShiftLog.l0:Nat→Int→List (S41)→Int→Int→Option ((List (S41)) × Int)
 | 0,_,_,_,_=>none
 | k + 1,x1,x6,x19,x20=>if x20 < x19 then (if 0≤x20 then (if x20 < (x6.length:Int) then (impl_ShiftLog.l0 k x1 (x6.set (x20:Int).toNat (⟨wrap64 (((rd_T41 x6 x20).f0) + x1),(rd_T41 x6 x20).f1,(rd_T41 x6 x20).f2⟩:S41)) x19 (wrap64 (x20 + 1))) else (none)) else (none)) else ((impl_ValidLog.f x6).bind fun t108=>(if t108=true then (some (x6,0)) else (some (([]:List (S41)),2))))
def impl_ShiftLog.f (k:Nat) (l0:List (S41)) (a1:Int):Option ((List (S41)) × Int):=(impl_ValidLog.f l0).bind fun t101=>(if t101=true then ((impl_within.f a1 (-100000) 100000).bind fun t102=>(if t102=true then ((slices_Clone_Log_Entry.f l0).bind fun t103=>(impl_ShiftLog.l0 k a1 t103 (t103.length:Int) 0)) else (some (([]:List (S41)),2)))) else (some (([]:List (S41)),1)))
set_option maxHeartbeats 8000000 in
set_option maxRecDepth 100000 in
theorem impl_ShiftLog.calls (k:Nat) (A0:Option Addr) (c0:Nat) (l0:List (S41)) (a1:Int) (r1:List (S41)) (r2:Int) (w:World) (hr0:Kd.C k41 w A0 l0.length l0) (hc0:l0.length≤c0) (h:impl_ShiftLog.f k l0 a1=some (r1,r2)) :
  Calls Tryz.prog 9 #[.slice A0 l0.length c0,.int .i64 a1] w fun e w'=>∃ v0_:Value,e=.returned (.tuple #[v0_,.int .i64 r2])∧Kd.R k41 41 w' w.heap.size (fun _=>True) v0_ r1∧Below w.heap.size w w':=by
 have HR0:=am hr0;have HC0:=am hc0;clear hr0 hc0;have HB:=am (Below.refl w.heap.size w);have H:((impl_ValidLog.f l0).bind fun t101=>(if t101=true then ((impl_within.f a1 (-100000) 100000).bind fun t102=>(if t102=true then ((slices_Clone_Log_Entry.f l0).bind fun t103=>(impl_ShiftLog.l0 k a1 t103 (t103.length:Int) 0)) else (some (([]:List (S41)),2)))) else (some (([]:List (S41)),1))))=some (r1,r2):=h;clear h;replace H:=Option.bind_eq_some_iff.mp H;obtain ⟨t101,A30,H⟩:=H;replace H:(if t101=true then ((impl_within.f a1 (-100000) 100000).bind fun t102=>(if t102=true then ((slices_Clone_Log_Entry.f l0).bind fun t103=>(impl_ShiftLog.l0 k a1 t103 (t103.length:Int) 0)) else (some (([]:List (S41)),2)))) else (some (([]:List (S41)),1)))=some (r1,r2):=H;have A3:=am A30;clear A30
 by_cases c4:t101=true
 ·subst c4
  have H1:((impl_within.f a1 (-100000) 100000).bind fun t102=>(if t102=true then ((slices_Clone_Log_Entry.f l0).bind fun t103=>(impl_ShiftLog.l0 k a1 t103 (t103.length:Int) 0)) else (some (([]:List (S41)),2))))=some (r1,r2):=by rw [if_pos rfl] at H;exact H
  clear H;have H:=H1;clear H1;replace H:=Option.bind_eq_some_iff.mp H;obtain ⟨t102,A50,H⟩:=H;replace H:(if t102=true then ((slices_Clone_Log_Entry.f l0).bind fun t103=>(impl_ShiftLog.l0 k a1 t103 (t103.length:Int) 0)) else (some (([]:List (S41)),2)))=some (r1,r2):=H;have A5:=am A50;clear A50
  by_cases c6:t102=true
  ·subst c6
   have H1:((slices_Clone_Log_Entry.f l0).bind fun t103=>(impl_ShiftLog.l0 k a1 t103 (t103.length:Int) 0))=some (r1,r2):=by rw [if_pos rfl] at H;exact H
   clear H;have H:=H1;clear H1;replace H:=Option.bind_eq_some_iff.mp H;obtain ⟨t103,A70,H⟩:=H;replace H:(impl_ShiftLog.l0 k a1 t103 (t103.length:Int) 0)=some (r1,r2):=H;have A7:=am A70;clear A70;have H':=am H;clear H
   go_enter Tryz.func9,Tryz.ntmps9
   go_wp2_with (first|((with_reducible refine gate_callee (f:=16) rfl ?_);refine goesL_ (some 10) rfl rfl Tryz.func16 zq18 rfl #[.slice A0 l0.length c0] rfl zq1 ?_;(with_reducible refine (impl_ValidLog.calls _ _ l0 true _ ?side1 ?side2 A3.out).mono ?_);(case side1=>exact zq6);(case side2=>exact HC0.out);rintro e w8 ⟨rfl,hb⟩;refine ⟨_,rfl,?_⟩;have n0_:=am (below_step zq0 hb);clear HB;have HB:=n0_;clear n0_;(try clear hb);(try clear hb2);(try clear hk);(try clear hi))|((with_reducible refine gate_callee (f:=32) rfl ?_);refine goesL_ (some 14) rfl rfl Tryz.func32 zq18 rfl #[.int .i64 a1,.int .i64 (-100000),.int .i64 100000] rfl zq1 ?_;(with_reducible refine (impl_within.calls a1 (-100000) 100000 true _ A5.out).mono ?_);rintro e w' ⟨rfl,⟨nd,rfl⟩⟩;refine ⟨_,rfl,?_⟩)|((with_reducible refine gate_callee (f:=33) rfl ?_);refine goesL_ (some 17) rfl rfl Tryz.func33 zq18 rfl #[.slice A0 l0.length c0] rfl zq1 ?_;(with_reducible refine (slices_Clone_Log_Entry.calls _ _ l0 t103 _ ?side1 ?side2 A7.out).mono ?_);(case side1=>repeat (first|exact (Kd.C_below HR0.out zq0)|(with_reducible refine Kd.C_alloc ?_ _)|(with_reducible refine Kd.C_drewN ?_ _)|(with_reducible refine Kd.C_drew ?_)));(case side2=>exact HC0.out);rintro e w9 ⟨v104,rfl,ho0,hb⟩;refine ⟨_,rfl,?_⟩;have n0_:=am (Kd.R_lower ho0 (below_size zq0));have n1_:=am (below_step zq0 hb);clear HB;have HO105:=n0_;have HB:=n1_;clear n0_ n1_;(try clear hb);(try clear hb2);(try clear hk);(try clear hi);(try clear ho0);obtain ⟨Ao10,co10,eo10⟩:=Kd.R_slice HO105.out;subst eo10))
   go_loopg [20] k (fun kq v20 w'=>∃ (x6_1:List (S41)) (x20_1:Int),v20=.int .i64 x20_1∧Aside0 (impl_ShiftLog.l0 kq a1 x6_1 (t103.length:Int) x20_1=some (r1,r2))∧Aside0 (kq≤k)∧Aside0 (Kd.R k41 41 w' w.heap.size (fun _=>True) (.slice Ao10 t103.length co10) x6_1)∧Aside0 (Below w.heap.size w w'))
   case atStart=>exact ⟨(t103),(0),zq2,H',⟨Nat.le_refl _⟩,⟨by (with_reducible repeat (first|apply Kd.R_alloc|apply Kd.R_drewN|apply Kd.R_drew));exact HO105.out⟩,⟨by repeat (first|(with_reducible first|exact HB.out|apply below_alloc|apply pw_below_drewN|apply below_drew1)|exact HB.out)⟩⟩
   case round =>
    clear H';(try clear c1);(try clear p2);(try clear c3);(try clear c4);(try clear c6);(try clear c9);obtain ⟨x6_1,x20_1,rfl,HA,HK1,HO_6,HB⟩:=hrel;have hl6_1:=(Kd.R_reads' HO_6.out).1;rw [hl6_1] at HO_6;(try simp only [hl6_1])
    cases gk with
    | zero=>exact absurd HA.out (by simp [impl_ShiftLog.l0])
    | succ k1 =>
     have H:=HA.out;clear HA;simp only [impl_ShiftLog.l0] at H
     by_cases c11:x20_1 < (t103.length:Int)
     ·rw [if_pos c11] at H;have c11b0:=decide_eq_true c11;clear c11
      by_cases c12:0≤x20_1
      ·rw [if_pos c12] at H;have c12b0:=decide_eq_true c12;clear c12
       by_cases c13:x20_1 < (x6_1.length:Int)
       ·rw [if_pos c13] at H;have c13b0:=decide_eq_true c13;clear c13;obtain ⟨y107,hy107⟩:∃ y_:List (S41),y_=(x6_1.set (x20_1:Int).toNat (⟨wrap64 (((rd_T41 x6_1 x20_1).f0) + a1),(rd_T41 x6_1 x20_1).f1,(rd_T41 x6_1 x20_1).f2⟩:S41)):=⟨_,rfl⟩
        replace H:(impl_ShiftLog.l0 k1 a1 y107 (t103.length:Int) (wrap64 (x20_1 + 1)))=some (r1,r2):=by first|(rw [hy107];with_reducible exact H)|(have H2_:=(Option.bind_some _ _).symm.trans H;rw [hy107];with_reducible exact H2_)|(have H2_:=(Option.bind_some _ _).symm.trans H;with_reducible exact H2_)|with_reducible exact H|(rw [hy107];exact H)|exact H
        have Ny107:=am hy107;clear hy107;have H':=am H;clear H;have p106:0≤(x20_1:Int):=of_decide_eq_true zq3;have q106:x20_1 < (x6_1.length:Int):=of_decide_eq_true zq3;obtain ⟨ad106,e106,hx106_0,hx106_1,hx106_2⟩:=at_T41 (Kd.R_reads' HO_6.out).2.2 x20_1 p106 q106;cases e106;replace p106:=eq_true p106;replace q106:=eq_true q106;have p14:0≤(x20_1:Int):=of_decide_eq_true zq3;have q14:(x20_1:Int) < ((x6_1.length:Int):Int):=of_decide_eq_true zq3;obtain ⟨go14,co14,eo14,gb14,gl14,cl14,HG14⟩:=Kd.R_form HO_6.out (by omega);(first|cases eo14|(injection eo14 with ea_ en_ ec_;(first|subst ea_|(injection ea_ with ea_;subst ea_));subst ec_;clear en_));have GB14:=am gb14;have GG14:=am HG14;clear gb14 gl14 HG14;(first|simp only [add_plain] at hx106_0|skip);(first|simp only [add_plain] at hx106_1|skip);(first|simp only [add_plain] at hx106_2|skip);obtain ⟨ce14,hcl14,hM14,hcc14,hfr14⟩:=Kd.R_elem HO_6.out z41 (x20_1:Int) p14 q14;obtain rfl:=k41_openM hM14;have hx14_0:wr.cell? ⟨go14,(x20_1:Int).toNat * 3,none⟩=some (.int .i64 ((rd_T41 x6_1 x20_1).f0)):=hcc14 0 _ rfl;have hx14_1:wr.cell? ⟨go14,(x20_1:Int).toNat * 3 + 1,none⟩=some (.int .i64 ((rd_T41 x6_1 x20_1).f1)):=hcc14 1 _ rfl;have hx14_2:wr.cell? ⟨go14,(x20_1:Int).toNat * 3 + 2,none⟩=some (.bool ((rd_T41 x6_1 x20_1).f2)):=hcc14 2 _ rfl;have hf14_0:wr.frozen? ⟨go14,(x20_1:Int).toNat * 3,none⟩=false:=hfr14 0;have hf14_1:wr.frozen? ⟨go14,(x20_1:Int).toNat * 3 + 1,none⟩=false:=hfr14 1;have hf14_2:wr.frozen? ⟨go14,(x20_1:Int).toNat * 3 + 2,none⟩=false:=hfr14 2;(clear hcl14 hcc14 hfr14;(try clear hM14));replace p14:=eq_true p14;replace q14:=eq_true q14;have HX15:=am (show Kd.R k41 41 wr w.heap.size (fun _=>True) (.slice (some ⟨go14,0,none⟩) x6_1.length co10) x6_1 from zq10);obtain ⟨ce15,hcl15,hM15,hcc15,hfr15⟩:=Kd.R_elem HX15.out z41 (x20_1:Int) (of_decide_eq_true zq3) zq53;obtain rfl:=k41_openM hM15;have HP15:=Kd.R_seg HX15.out (x20_1:Int) (of_decide_eq_true zq3) zq53 (seg:=[.int .i64 (wrap64 (((rd_T41 x6_1 x20_1).f0) + a1))]) (j:=0) hcl15 hcc15 (show 1≤3 from by decide) (x':=(⟨wrap64 (((rd_T41 x6_1 x20_1).f0) + a1),(rd_T41 x6_1 x20_1).f1,(rd_T41 x6_1 x20_1).f2⟩:S41)) (k41_mkM _ _ _ (⟨wrap64 (((rd_T41 x6_1 x20_1).f0) + a1),(rd_T41 x6_1 x20_1).f1,(rd_T41 x6_1 x20_1).f2⟩:S41) ) (fun _ hk=>hk);have hx15_0:=hcc15 0 _ rfl;(try simp only [show (k41).sz=3 from rfl,Nat.mul_one,Nat.add_zero] at hx15_0);have hf15_0:=hfr15 0;(try simp only [show (k41).sz=3 from rfl,Nat.mul_one,Nat.add_zero] at hf15_0);(clear hcl15 hcc15 hfr15;(try clear hM15))
        go_wp2_with (first|((with_reducible refine gate_store (t:=2) (p:=31) rfl ?_);refine store_event (t:=2) (p:=31) (v:=?vo_w16) (w1:=(wr.setCell ⟨go14,(x20_1:Int).toNat * 3,none⟩ (.int .i64 (wrap64 (((rd_T41 x6_1 x20_1).f0) + a1))))) ?hg ?ho ?hn ?hr ?_;(case ho=>rfl);(case hg=>rfl);(case hn=>rfl);(case hr=>exact zq9);intro w16 hw;have hg:wr.grownBy w16 (some go14):=(by rw [hw];exact HP15.2);have hp_:Kd.R k41 41 w16 w.heap.size (fun _=>True) (.slice (some ⟨go14,0,none⟩) x6_1.length co10) y107:=(by rw [hw,Ny107.out];exact HP15.1);clear HP15;have n0_:=am (hp_);have n1_:=am ((by rw [hw];exact below_set (HB.out) GB14.out:Below w.heap.size w w16));clear HO_6;clear HB;have HO_6:=n0_;have HB:=n1_;clear n0_ n1_;clear hg hw hp_))
        (try simp only [← hl6_1])
        go_roundg k1
        case measure=>have:=HK1.out;omega
        case rel=>exact ⟨(y107),(wrap64 (x20_1 + 1)),zq2,H',⟨by have:=HK1.out;omega⟩,⟨by (try simp only [hl6_1]);(with_reducible repeat (first|apply Kd.R_alloc|apply Kd.R_drewN|apply Kd.R_drew));exact HO_6.out⟩,⟨by repeat (first|(with_reducible first|exact HB.out|apply below_alloc|apply pw_below_drewN|apply below_drew1)|exact HB.out)⟩⟩
       ·rw [if_neg c13] at H;exact absurd H (by simp)
      ·rw [if_neg c12] at H;exact absurd H (by simp)
     ·rw [if_neg c11] at H;have c11b0:=decide_eq_false c11
      have c11z:decide (x20_1 < (x6_1.length:Int))=false:=by rw [show x6_1.length=t103.length from by first|exact hl6_1|exact hl6_1.symm|(have:=(Kd.R_reads' HO_6.out).1;omega)];exact c11b0
      clear c11;replace H:=Option.bind_eq_some_iff.mp H;obtain ⟨t108,A170,H⟩:=H;replace H:(if t108=true then (some (x6_1,0)) else (some (([]:List (S41)),2)))=some (r1,r2):=H;have A17:=am A170;clear A170
      by_cases c18:t108=true
      ·subst c18
       have H1:(some (x6_1,0))=some (r1,r2):=by rw [if_pos rfl] at H;exact H
       clear H;have H:=H1;clear H1;simp only [Option.some.injEq,Prod.mk.injEq] at H;obtain ⟨rfl,rfl⟩:=H
       go_wp2_with (first|((with_reducible refine gate_callee (f:=16) rfl ?_);refine goesL_ (some 34) rfl rfl Tryz.func16 zq18 rfl #[.slice Ao10 x6_1.length co10] rfl zq1 ?_;(with_reducible refine (impl_ValidLog.calls _ _ x6_1 true _ ?side1 ?side2 A17.out).mono ?_);(case side1=>exact zq49);(case side2=>exact (Kd.R_reads' HO_6.out).2.1);rintro e w19 ⟨rfl,hb⟩;refine ⟨_,rfl,?_⟩;have n0_:=am (Kd.R_below zq10 hb);have n1_:=am (below_step zq0 hb);clear HO_6;clear HB;have HO_6:=n0_;have HB:=n1_;clear n0_ n1_;(try clear hb);(try clear hb2);(try clear hk);(try clear hi)))
       go_ret2
       exact ⟨_,by first|rfl|(simp [errW_none,errW_some,IntKind.wrap_i64,wrap64];done)|(simp [errW_none,errW_some] <;> rfl)|(simp [*,errW_none,errW_some] <;> rfl),by (with_reducible repeat (first|apply Kd.R_alloc|apply Kd.R_drewN|apply Kd.R_drew));exact HO_6.out,by repeat (first|(with_reducible first|exact HB.out|apply below_alloc|apply pw_below_drewN|apply below_drew1)|exact HB.out)⟩
      ·replace c18:=Bool.eq_false_iff.mpr c18;subst c18
       have H1:(some (([]:List (S41)),2))=some (r1,r2):=by rw [if_neg (show ¬ (false=true) by decide)] at H;exact H
       clear H;have H:=H1;clear H1;simp only [Option.some.injEq,Prod.mk.injEq] at H;obtain ⟨rfl,rfl⟩:=H
       go_wp2_with (first|((with_reducible refine gate_callee (f:=16) rfl ?_);refine goesL_ (some 34) rfl rfl Tryz.func16 zq18 rfl #[.slice Ao10 x6_1.length co10] rfl zq1 ?_;(with_reducible refine (impl_ValidLog.calls _ _ x6_1 false _ ?side1 ?side2 A17.out).mono ?_);(case side1=>exact zq49);(case side2=>exact (Kd.R_reads' HO_6.out).2.1);rintro e w20 ⟨rfl,hb⟩;refine ⟨_,rfl,?_⟩;have n0_:=am (Kd.R_below zq10 hb);have n1_:=am (below_step zq0 hb);clear HO_6;clear HB;have HO_6:=n0_;have HB:=n1_;clear n0_ n1_;(try clear hb);(try clear hb2);(try clear hk);(try clear hi)))
       go_ret2
       exact ⟨_,by first|rfl|(simp [errW_none,errW_some,IntKind.wrap_i64,wrap64];done)|(simp [errW_none,errW_some] <;> rfl)|(simp [*,errW_none,errW_some] <;> rfl),by first|exact Kd.R_nil _ _ _ _ _|exact Kd.N_nil _ _ _ _ _|exact Kd.V_nil _ _ _ _ _|exact Kd.Q_nil _ _ _ _ _|exact Kd.S_nil _ _ _ _ _,by repeat (first|(with_reducible first|exact HB.out|apply below_alloc|apply pw_below_drewN|apply below_drew1)|exact HB.out)⟩
  ·replace c6:=Bool.eq_false_iff.mpr c6;subst c6
   have H1:(some (([]:List (S41)),2))=some (r1,r2):=by rw [if_neg (show ¬ (false=true) by decide)] at H;exact H
   clear H;have H:=H1;clear H1;simp only [Option.some.injEq,Prod.mk.injEq] at H;obtain ⟨rfl,rfl⟩:=H
   go_enter Tryz.func9,Tryz.ntmps9
   go_wp2_with (first|((with_reducible refine gate_callee (f:=16) rfl ?_);refine goesL_ (some 10) rfl rfl Tryz.func16 zq18 rfl #[.slice A0 l0.length c0] rfl zq1 ?_;(with_reducible refine (impl_ValidLog.calls _ _ l0 true _ ?side1 ?side2 A3.out).mono ?_);(case side1=>exact zq6);(case side2=>exact HC0.out);rintro e w21 ⟨rfl,hb⟩;refine ⟨_,rfl,?_⟩;have n0_:=am (below_step zq0 hb);clear HB;have HB:=n0_;clear n0_;(try clear hb);(try clear hb2);(try clear hk);(try clear hi))|((with_reducible refine gate_callee (f:=32) rfl ?_);refine goesL_ (some 14) rfl rfl Tryz.func32 zq18 rfl #[.int .i64 a1,.int .i64 (-100000),.int .i64 100000] rfl zq1 ?_;(with_reducible refine (impl_within.calls a1 (-100000) 100000 false _ A5.out).mono ?_);rintro e w' ⟨rfl,⟨nd,rfl⟩⟩;refine ⟨_,rfl,?_⟩))
   go_ret2
   exact ⟨_,by first|rfl|(simp [errW_none,errW_some,IntKind.wrap_i64,wrap64];done)|(simp [errW_none,errW_some] <;> rfl)|(simp [*,errW_none,errW_some] <;> rfl),by first|exact Kd.R_nil _ _ _ _ _|exact Kd.N_nil _ _ _ _ _|exact Kd.V_nil _ _ _ _ _|exact Kd.Q_nil _ _ _ _ _|exact Kd.S_nil _ _ _ _ _,by repeat (first|(with_reducible first|exact HB.out|apply below_alloc|apply pw_below_drewN|apply below_drew1)|exact HB.out)⟩
 ·replace c4:=Bool.eq_false_iff.mpr c4;subst c4
  have H1:(some (([]:List (S41)),1))=some (r1,r2):=by rw [if_neg (show ¬ (false=true) by decide)] at H;exact H
  clear H;have H:=H1;clear H1;simp only [Option.some.injEq,Prod.mk.injEq] at H;obtain ⟨rfl,rfl⟩:=H
  go_enter Tryz.func9,Tryz.ntmps9
  go_wp2_with (first|((with_reducible refine gate_callee (f:=16) rfl ?_);refine goesL_ (some 10) rfl rfl Tryz.func16 zq18 rfl #[.slice A0 l0.length c0] rfl zq1 ?_;(with_reducible refine (impl_ValidLog.calls _ _ l0 false _ ?side1 ?side2 A3.out).mono ?_);(case side1=>exact zq6);(case side2=>exact HC0.out);rintro e w22 ⟨rfl,hb⟩;refine ⟨_,rfl,?_⟩;have n0_:=am (below_step zq0 hb);clear HB;have HB:=n0_;clear n0_;(try clear hb);(try clear hb2);(try clear hk);(try clear hi)))
  go_ret2
  exact ⟨_,by first|rfl|(simp [errW_none,errW_some,IntKind.wrap_i64,wrap64];done)|(simp [errW_none,errW_some] <;> rfl)|(simp [*,errW_none,errW_some] <;> rfl),by first|exact Kd.R_nil _ _ _ _ _|exact Kd.N_nil _ _ _ _ _|exact Kd.V_nil _ _ _ _ _|exact Kd.Q_nil _ _ _ _ _|exact Kd.S_nil _ _ _ _ _,by repeat (first|(with_reducible first|exact HB.out|apply below_alloc|apply pw_below_drewN|apply below_drew1)|exact HB.out)⟩
def impl_UpAt_1.f (a0_0:Int) (a0_1:Int) (a0_2:Bool) (a1:Int):Option (Bool):=some (decide (a0_0 > a1))
set_option maxHeartbeats 8000000 in
set_option maxRecDepth 100000 in
theorem impl_UpAt_1.calls (a0_0:Int) (a0_1:Int) (a0_2:Bool) (a1:Int) (b1:Nat) (r:Bool) (w:World) (hb1:w.heap[b1]?=some (.cells #[.int .i64 a1] 2 (0,0))) (h:impl_UpAt_1.f a0_0 a0_1 a0_2 a1=some r) :
  Calls Tryz.prog 38 #[.agg #[.int .i64 a0_0,.int .i64 a0_1,.bool a0_2],.pointer (some ⟨b1,0,none⟩)] w fun e w'=>e=.returned (.bool r)∧Below w.heap.size w w':=by
 have hu41:=Tryz.underlying41;have BK1:=am hb1;clear hb1;have HB:=am (Below.refl w.heap.size w);have H:(some (decide (a0_0 > a1)))=some r:=h;clear h;obtain rfl:=Option.some.inj H
 go_enter Tryz.func38,Tryz.ntmps38
 go_wp2_with (first|((with_reducible refine gate_dst (N:=2) rfl ?_);refine box_event ?hg (N:=2) ?hd (cs:=#[.int .i64 a0_0,.int .i64 a0_1,.bool a0_2]) (t:=41) ?hr ?_;(case hd=>rfl);(case hg=>rfl);(case hr=>exact zq9);intro gb101 hg w3 hbox hb;have n0_:=am (blk_below (g:=b1) (o:=.cells #[.int .i64 a1] 2 (0,0)) zq38 hb);have n1_:=am (below_step zq34 hb);have n2_:=am (hbox);have n3_:=am ((by rw [hg];exact (below_size zq34):w.heap.size≤gb101));have n4_:=am ((by rw [hg];exact (below_size zq34):w.heap.size≤gb101));have n5_:=am ((by rw [hg];exact Nat.ne_of_lt (blk_lt (g:=b1) (o:=.cells #[.int .i64 a1] 2 (0,0)) zq38):b1≠gb101));have n6_:=am ((by rw [hg];exact Nat.ne_of_gt (blk_lt (g:=b1) (o:=.cells #[.int .i64 a1] 2 (0,0)) zq38):gb101≠b1));clear BK1;clear HB;have BK1:=n0_;have HB:=n1_;have BK101:=n2_;have GW101:=n3_;have GE101:=n4_;have NB1_101:=n5_;have NB101_1:=n6_;clear n0_ n1_ n2_ n3_ n4_ n5_ n6_;clear hb hbox hg;have hnb4:=NB101_1.out;have hnc4:=NB1_101.out;have hcz5_0:w3.cell? ⟨gb101,0,none⟩=some (.int .i64 a0_0):=(blk_cell BK101.out 0).trans rfl;have hcz5_1:w3.cell? ⟨gb101,1,none⟩=some (.int .i64 a0_1):=(blk_cell BK101.out 1).trans rfl;have hcz5_2:w3.cell? ⟨gb101,2,none⟩=some (.bool a0_2):=(blk_cell BK101.out 2).trans rfl;have hfz5_0:=blk_frozen BK101.out 0;have hfz5_1:=blk_frozen BK101.out 1;have hfz5_2:=blk_frozen BK101.out 2;have hcz6_0:w3.cell? ⟨b1,0,none⟩=some (.int .i64 a1):=(blk_cell BK1.out 0).trans rfl;have hfz6_0:=blk_frozen BK1.out 0))
 go_ret
 exact ⟨by first|rfl|(simp [errW_none,errW_some,IntKind.wrap_i64,wrap64];done)|(simp [errW_none,errW_some] <;> rfl)|(simp [*,errW_none,errW_some] <;> rfl),by repeat (first|(with_reducible first|exact HB.out|apply below_alloc|apply pw_below_drewN|apply below_drew1|refine below_set ?_ GE1.out|refine below_set ?_ GE101.out)|exact HB.out)⟩
def slices_IndexFunc_Log_Entry__impl_UpAt_1.f (l0:List (S41)) (a1:Int):Option (Int):=idxO (fun x=>impl_UpAt_1.f x.f0 x.f1 x.f2 a1) l0
set_option maxHeartbeats 2000000 in
theorem slices_IndexFunc_Log_Entry__impl_UpAt_1.calls (A0:Option Addr) (c0:Nat) (l0:List (S41)) (a1:Int) (b1:Nat) (r:Int) (w:World) (hr0:Kd.C k41 w A0 l0.length l0) (hc0:l0.length≤c0) (hb1:w.heap[b1]?=some (.cells #[.int .i64 a1] 2 (0,0))) (h:slices_IndexFunc_Log_Entry__impl_UpAt_1.f l0 a1=some r) :
  Calls Tryz.prog 37 #[.slice A0 l0.length c0,.func (.func 38) #[] #[.pointer (some ⟨b1,0,none⟩)]] w fun e w'=>e=.returned (.int .i64 r)∧Below w.heap.size w w':=by
 have eg:=enters_of Tryz.func38 zq18 rfl;obtain ⟨hall,rfl⟩:=idxO_some h;refine slices_IndexFunc_Log_Entry.calls A0 c0 l0 _ #[.pointer (some ⟨b1,0,none⟩)] eg (fun x=>impl_UpAt_1.f x.f0 x.f1 x.f2 a1 == some true) w hr0 hc0 (fun W hW x hx=>?_);obtain ⟨b,hb⟩:=Option.isSome_iff_exists.1 (hall x hx);rw [show (#[.agg #[.int .i64 x.f0,.int .i64 x.f1,.bool x.f2]] ++ #[.pointer (some ⟨b1,0,none⟩)]:Array Value)=#[.agg #[.int .i64 x.f0,.int .i64 x.f1,.bool x.f2],.pointer (some ⟨b1,0,none⟩)] from rfl]
 refine (impl_UpAt_1.calls x.f0 x.f1 x.f2 a1 b1 b W  (blk_below hb1 hW) hb).mono fun e w' ⟨he,hw⟩=>⟨he.trans (by rw [hb];cases b <;> rfl),?_⟩
 exact below_then hW hW.size hw
mutual
def impl_UpAt.j0:Nat→List (S41)→Int→Option (List Int × Int)
 | 0,_,_=>none
 | k + 1,x0,x6=>if 0≤x6 then (if x6≤(x0.length:Int) then ((impl_Log_up.f (x0.take (x6:Int).toNat)).bind fun bt109=>(impl_UpAt.l0 k x0 (([]:List Int)) bt109.1 (bt109.1.length:Int) 0)) else (none)) else (none)
def impl_UpAt.l0:Nat→List (S41)→List Int→List Int→Int→Int→Option (List Int × Int)
 | 0,_,_,_,_,_=>none
 | k + 1,x0,x9,x35,x36,x37=>if x37 < x36 then (if 0≤x37 then (if x37 < (x35.length:Int) then (if 0≤(rd x35 x37) then (if (rd x35 x37) < (x0.length:Int) then (if x9.length < 17592186044416 then (impl_UpAt.l0 k x0 (x9 ++ [(rd_T41 x0 (rd x35 x37)).f1]) x35 x36 (wrap64 (x37 + 1))) else (none)) else (none)) else (none)) else (none)) else (none)) else (some (x9,0))
end
def impl_UpAt.f (k:Nat) (l0:List (S41)) (a1:Int):Option (List Int × Int):=(impl_ValidLog.f l0).bind fun t102=>(if t102=true then ((impl_within.f a1 0 100000).bind fun t103=>(if t103=true then ((slices_IndexFunc_Log_Entry__impl_UpAt_1.f l0 a1).bind fun t104=>(if t104 < 0 then (impl_UpAt.j0 k l0 (l0.length:Int)) else (impl_UpAt.j0 k l0 t104))) else (some (([]:List Int),2)))) else (some (([]:List Int),1)))
set_option maxHeartbeats 8000000 in
set_option maxRecDepth 100000 in
theorem impl_UpAt.calls (k:Nat) (A0:Option Addr) (c0:Nat) (l0:List (S41)) (a1:Int) (r1:List Int) (r2:Int) (w:World) (hr0:Kd.C k41 w A0 l0.length l0) (hc0:l0.length≤c0) (h:impl_UpAt.f k l0 a1=some (r1,r2)) :
  Calls Tryz.prog 11 #[.slice A0 l0.length c0,.int .i64 a1] w fun e w'=>∃ v0_:Value,e=.returned (.tuple #[v0_,.int .i64 r2])∧Kd.R (Kd.int .i64) 2 w' w.heap.size (fun _=>True) v0_ r1∧Below w.heap.size w w':=by
 have HR0:=am hr0;have HC0:=am hc0;clear hr0 hc0;have HB:=am (Below.refl w.heap.size w);have H:((impl_ValidLog.f l0).bind fun t102=>(if t102=true then ((impl_within.f a1 0 100000).bind fun t103=>(if t103=true then ((slices_IndexFunc_Log_Entry__impl_UpAt_1.f l0 a1).bind fun t104=>(if t104 < 0 then (impl_UpAt.j0 k l0 (l0.length:Int)) else (impl_UpAt.j0 k l0 t104))) else (some (([]:List Int),2)))) else (some (([]:List Int),1))))=some (r1,r2):=h;clear h;replace H:=Option.bind_eq_some_iff.mp H;obtain ⟨t102,A30,H⟩:=H;replace H:(if t102=true then ((impl_within.f a1 0 100000).bind fun t103=>(if t103=true then ((slices_IndexFunc_Log_Entry__impl_UpAt_1.f l0 a1).bind fun t104=>(if t104 < 0 then (impl_UpAt.j0 k l0 (l0.length:Int)) else (impl_UpAt.j0 k l0 t104))) else (some (([]:List Int),2)))) else (some (([]:List Int),1)))=some (r1,r2):=H;have A3:=am A30;clear A30
 by_cases c4:t102=true
 ·subst c4
  have H1:((impl_within.f a1 0 100000).bind fun t103=>(if t103=true then ((slices_IndexFunc_Log_Entry__impl_UpAt_1.f l0 a1).bind fun t104=>(if t104 < 0 then (impl_UpAt.j0 k l0 (l0.length:Int)) else (impl_UpAt.j0 k l0 t104))) else (some (([]:List Int),2))))=some (r1,r2):=by rw [if_pos rfl] at H;exact H
  clear H;have H:=H1;clear H1;replace H:=Option.bind_eq_some_iff.mp H;obtain ⟨t103,A50,H⟩:=H;replace H:(if t103=true then ((slices_IndexFunc_Log_Entry__impl_UpAt_1.f l0 a1).bind fun t104=>(if t104 < 0 then (impl_UpAt.j0 k l0 (l0.length:Int)) else (impl_UpAt.j0 k l0 t104))) else (some (([]:List Int),2)))=some (r1,r2):=H;have A5:=am A50;clear A50
  by_cases c6:t103=true
  ·subst c6
   have H1:((slices_IndexFunc_Log_Entry__impl_UpAt_1.f l0 a1).bind fun t104=>(if t104 < 0 then (impl_UpAt.j0 k l0 (l0.length:Int)) else (impl_UpAt.j0 k l0 t104)))=some (r1,r2):=by rw [if_pos rfl] at H;exact H
   clear H;have H:=H1;clear H1;replace H:=Option.bind_eq_some_iff.mp H;obtain ⟨t104,A70,H⟩:=H;replace H:(if t104 < 0 then (impl_UpAt.j0 k l0 (l0.length:Int)) else (impl_UpAt.j0 k l0 t104))=some (r1,r2):=H;have A7:=am A70;clear A70;have HC8:=am H;clear H
   go_enter Tryz.func11,Tryz.ntmps11
   go_upto_if 24 with (first|((with_reducible refine gate_dst (N:=3) rfl ?_);refine box_event ?hg (N:=3) ?hd (cs:=#[.int .i64 a1]) (t:=2) ?hr ?_;(case hd=>rfl);(case hg=>rfl);(case hr=>exact zq9);intro gb101 hg w9 hbox hb;have n0_:=am (below_step zq0 hb);have n1_:=am (hbox);have n2_:=am ((by rw [hg];exact (below_size zq0):w.heap.size≤gb101));have n3_:=am ((by rw [hg];exact (below_size zq0):w.heap.size≤gb101));clear HB;have HB:=n0_;have BK101:=n1_;have GW101:=n2_;have GE101:=n3_;clear n0_ n1_ n2_ n3_;clear hb hbox hg)|((with_reducible refine gate_callee (f:=16) rfl ?_);refine goesL_ (some 14) rfl rfl Tryz.func16 zq18 rfl #[.slice A0 l0.length c0] rfl zq1 ?_;(with_reducible refine (impl_ValidLog.calls _ _ l0 true _ ?side1 ?side2 A3.out).mono ?_);(case side1=>exact zq4);(case side2=>exact HC0.out);rintro e w10 ⟨rfl,hb⟩;refine ⟨_,rfl,?_⟩;have n0_:=am (blk_below (g:=gb101) (o:=.cells #[.int .i64 a1] 2 (0,0)) zq7 hb);have n1_:=am (below_step zq5 hb);clear BK101;clear HB;have BK101:=n0_;have HB:=n1_;clear n0_ n1_;(try clear hb);(try clear hb2);(try clear hk);(try clear hi);have hcz11_0:w10.cell? ⟨gb101,0,none⟩=some (.int .i64 a1):=(blk_cell BK101.out 0).trans rfl;have hfz11_0:=blk_frozen BK101.out 0)|((with_reducible refine gate_callee (f:=32) rfl ?_);refine goesL_ (some 18) rfl rfl Tryz.func32 zq18 rfl #[.int .i64 a1,.int .i64 0,.int .i64 100000] rfl zq1 ?_;(with_reducible refine (impl_within.calls a1 0 100000 true _ A5.out).mono ?_);rintro e w' ⟨rfl,⟨nd,rfl⟩⟩;refine ⟨_,rfl,?_⟩)|((with_reducible refine gate_callee (f:=37) rfl ?_);refine goesL_ (some 22) rfl rfl Tryz.func37 zq18 rfl #[.slice A0 l0.length c0,.func (.func 38) #[] #[.pointer (some ⟨gb101,0,none⟩)]] rfl zq1 ?_;(with_reducible refine (slices_IndexFunc_Log_Entry__impl_UpAt_1.calls _ _ l0 a1 gb101 t104 _ ?side1 ?side2 ?side3 A7.out).mono ?_);(case side1=>repeat (first|exact (Kd.C_below HR0.out zq5)|(with_reducible refine Kd.C_alloc ?_ _)|(with_reducible refine Kd.C_drewN ?_ _)|(with_reducible refine Kd.C_drew ?_)));(case side2=>exact HC0.out);(case side3=>exact zq7);rintro e w12 ⟨rfl,hb⟩;refine ⟨_,rfl,?_⟩;have n0_:=am (blk_below (g:=gb101) (o:=.cells #[.int .i64 a1] 2 (0,0)) zq7 hb);have n1_:=am (below_step zq5 hb);clear BK101;clear HB;have BK101:=n0_;have HB:=n1_;clear n0_ n1_;(try clear hb);(try clear hb2);(try clear hk);(try clear hi)))
   (try simp only [Act.put,List.setIfInBounds_toArray,List.set_cons_zero,List.set_cons_succ])
   go_cut [6] (fun v6 wc=>∃ (kq:Nat) (x6_7:Int),v6=.int .i64 x6_7∧Aside0 (impl_UpAt.j0 kq l0 x6_7=some (r1,r2))∧Aside0 (kq≤k)∧Aside0 (wc.heap[gb101]?=some (.cells #[.int .i64 a1] 2 (0,0)))∧Aside0 (Below w.heap.size w wc))
   case first =>
    have H:=HC8.out;clear HC8
    by_cases c13:t104 < 0
    ·rw [if_pos c13] at H;have c13b0:=decide_eq_true c13;clear c13;(first|rw [c13b0]|(simp only [i64_w,i32_w];rw [c13b0])|skip);have H':=am H;clear H
     go_wp2
     go_meet
     case rel=>exact ⟨_,((l0.length:Int)),zq2,H',⟨by first|omega|exact Nat.le_refl _⟩,⟨by (with_reducible repeat (first|refine blk_drewN ?_ _|refine blk_drew ?_|refine blk_alloc ?_ _));exact BK101.out⟩,⟨by repeat (first|(with_reducible first|exact HB.out|apply below_alloc|apply pw_below_drewN|apply below_drew1|refine below_set ?_ GE101.out)|exact HB.out)⟩⟩
    ·rw [if_neg c13] at H;have c13b0:=decide_eq_false c13;clear c13;(first|rw [c13b0]|(simp only [i64_w,i32_w];rw [c13b0])|skip);have H':=am H;clear H
     go_wp2
     go_meet
     case rel=>exact ⟨_,(t104),zq2,H',⟨by first|omega|exact Nat.le_refl _⟩,⟨by (with_reducible repeat (first|refine blk_drewN ?_ _|refine blk_drew ?_|refine blk_alloc ?_ _));exact BK101.out⟩,⟨by repeat (first|(with_reducible first|exact HB.out|apply below_alloc|apply pw_below_drewN|apply below_drew1|refine below_set ?_ GE101.out)|exact HB.out)⟩⟩
   case rest =>
    clear HC8;(try clear c1);(try clear p2);(try clear c3);(try clear c4);(try clear c6);(try clear c11);(try clear c13);(try clear c13b0);(try clear hcz11_0);(try clear hfz11_0);obtain ⟨kq,x6_7,rfl,HA,HJ7,BK101,HB⟩:=hcut
    cases kq with
    | zero=>exact absurd HA.out (by simp [impl_UpAt.j0])
    | succ kj7 =>
     have H:=HA.out;clear HA;simp only [impl_UpAt.j0] at H
     by_cases c14:0≤x6_7
     ·rw [if_pos c14] at H;have c14b0:=eq_true c14;have c14b1:=decide_eq_true c14;clear c14
      by_cases c15:x6_7≤(l0.length:Int)
      ·rw [if_pos c15] at H;have c15b0:=eq_true c15;have c15b1:=decide_eq_true c15;clear c15;obtain ⟨y105,hy105⟩:∃ y_:List (S41),y_=(l0.take (x6_7:Int).toNat):=⟨_,rfl⟩
       replace H:((impl_Log_up.f y105).bind fun bt109=>(impl_UpAt.l0 kj7 l0 (([]:List Int)) bt109.1 (bt109.1.length:Int) 0))=some (r1,r2):=by first|(rw [hy105];with_reducible exact H)|(have H2_:=(Option.bind_some _ _).symm.trans H;rw [hy105];with_reducible exact H2_)|(have H2_:=(Option.bind_some _ _).symm.trans H;with_reducible exact H2_)|with_reducible exact H|(rw [hy105];exact H)|exact H
       have Ny105:=am hy105;clear hy105;replace H:=Option.bind_eq_some_iff.mp H;obtain ⟨⟨t109,t110⟩,A160,H⟩:=H;replace H:(impl_UpAt.l0 kj7 l0 (([]:List Int)) t109 (t109.length:Int) 0)=some (r1,r2):=H;have A16:=am A160;clear A160;obtain ⟨y113,hy113⟩:∃ y_:List Int,y_=(([]:List Int)):=⟨_,rfl⟩
       replace H:(impl_UpAt.l0 kj7 l0 y113 t109 (t109.length:Int) 0)=some (r1,r2):=by first|(rw [hy113];with_reducible exact H)|(have H2_:=(Option.bind_some _ _).symm.trans H;rw [hy113];with_reducible exact H2_)|(have H2_:=(Option.bind_some _ _).symm.trans H;with_reducible exact H2_)|with_reducible exact H|(rw [hy113];exact H)|exact H
       have Ny113:=am hy113;clear hy113;have H':=am H;clear H;have q17:(x6_7:Int)≤((l0.length:Int):Int):=of_decide_eq_true zq3;obtain ⟨i017,hi017,_,hsz17,_⟩:=info_parts info41;have hroom17:l0.length≤c0:=HC0.out;have hC17:Kd.C k41 _ A0 l0.length l0:=HR0.out;have hcut17:=cut_to (P:=Tryz.prog) 25 41 .i64 Tryz.underlying25 hi017 A0 l0.length c0 x6_7 (of_decide_eq_true zq3) q17 hroom17;have hr17:=Kd.C_take (m:=(x6_7:Int).toNat) hC17 (by omega);have hy17:y105.length=(x6_7:Int).toNat:=(by rw [Ny105.out,List.length_take];omega);rw [← Ny105.out] at hr17;rw [← hy17] at hcut17;have HR108:=am hr17;have HC108:=am (show y105.length≤c0 from by omega);clear hr17 hC17 hroom17 hi017 hsz17;have KY17:=am hy17;clear hy17;replace q17:=eq_true q17
       go_wp2_with (first|((with_reducible refine gate_callee (f:=39) rfl ?_);refine goesL_ (some 31) rfl rfl Tryz.func39 zq18 rfl #[.slice A0 y105.length c0] rfl zq1 ?_;(with_reducible refine (impl_Log_up.calls _ _ y105 t109 t110 _ ?side1 ?side2 A16.out).mono ?_);(case side1=>repeat (first|exact (Kd.C_below HR108.out HB.out)|(with_reducible refine Kd.C_alloc ?_ _)|(with_reducible refine Kd.C_drewN ?_ _)|(with_reducible refine Kd.C_drew ?_)));(case side2=>exact HC108.out);rintro e w18 ⟨v111,rfl,ho0,hb⟩;refine ⟨_,rfl,?_⟩;have n0_:=am (Kd.R_lower ho0 (below_size zq5));have n1_:=am (blk_below (g:=gb101) (o:=.cells #[.int .i64 a1] 2 (0,0)) zq7 hb);have n2_:=am (below_step zq5 hb);clear BK101;clear HB;have HO112:=n0_;have BK101:=n1_;have HB:=n2_;clear n0_ n1_ n2_;(try clear hb);(try clear hb2);(try clear hk);(try clear hi);(try clear ho0))|((with_reducible refine gate_dst (N:=34) rfl ?_);refine Kd.R_lit (Kd.int .i64) _ 2 ?hg (N:=34) ?hd (xs:=([]:List Int)) (inner:=[]) (ok:=fun _=>True) (okp:=fun _=>True) ?hr ?hp (fun _ hk=>hk) trivial (Below.refl _ _) (Nat.le_refl _) (by simp) ?_;(case hd=>rfl);(case hg=>rfl);(case hr=>exact zq9);(case hp=>exact (Reps.none _ _));intro v114 w19 ho20 hb hg_ hnew_;clear hg_ hnew_;(first|rw [← Ny113.out] at ho20|(simp only [Int.reduceToNat] at ho20;rw [← Ny113.out] at ho20));have n0_:=am (Kd.R_below (by (with_reducible repeat (first|apply Kd.R_alloc|apply Kd.R_drewN|apply Kd.R_drew));exact HO112.out) hb);have n1_:=am (Kd.R_lower (Kd.R_newB ho20 (g:=gb101) (o:=.cells #[.int .i64 a1] 2 (0,0)) zq7) (below_size zq5));have n2_:=am (blk_below (g:=gb101) (o:=.cells #[.int .i64 a1] 2 (0,0)) zq7 hb);have n3_:=am (below_step zq5 hb);clear HO112;clear BK101;clear HB;have HO112:=n0_;have HO115:=n1_;have BK101:=n2_;have HB:=n3_;clear n0_ n1_ n2_ n3_;clear hb ho20;obtain ⟨Ao21,co21,eo21⟩:=Kd.R_slice HO112.out;subst eo21))
       go_loopg [9,37] kj7 (fun kq v9 v37 w'=>∃ (x9_2:List Int) (x37_2:Int),v37=.int .i64 x37_2∧Aside0 (impl_UpAt.l0 kq l0 x9_2 t109 (t109.length:Int) x37_2=some (r1,r2))∧Aside0 (kq≤kj7)∧Aside0 (Kd.R (Kd.int .i64) 2 w' w.heap.size (fun k_=>k_≠gb101) v9 x9_2)∧Aside0 (Kd.R (Kd.int .i64) 3 w' w.heap.size (fun _=>True) (.slice Ao21 t109.length co21) t109)∧Aside0 (w'.heap[gb101]?=some (.cells #[.int .i64 a1] 2 (0,0)))∧Aside0 (Below w.heap.size w w'))
       case atStart=>exact ⟨(y113),(0),zq2,H',⟨Nat.le_refl _⟩,⟨by (with_reducible repeat (first|apply Kd.R_alloc|apply Kd.R_drewN|apply Kd.R_drew));exact Kd.R_mono HO115.out (fun _ hk=>hk.2)⟩,⟨by (with_reducible repeat (first|apply Kd.R_alloc|apply Kd.R_drewN|apply Kd.R_drew));exact HO112.out⟩,⟨by (with_reducible repeat (first|refine blk_drewN ?_ _|refine blk_drew ?_|refine blk_alloc ?_ _));exact BK101.out⟩,⟨by repeat (first|(with_reducible first|exact HB.out|apply below_alloc|apply pw_below_drewN|apply below_drew1|refine below_set ?_ GE101.out)|exact HB.out)⟩⟩
       case round =>
        clear H';(try clear c1);(try clear q1);(try clear p2);(try clear c3);(try clear c4);(try clear c6);(try clear c11);(try clear c13);(try clear c13b0);(try clear c14);(try clear c14b0);(try clear c14b1);(try clear c15);(try clear c15b0);(try clear c15b1);(try clear c16);(try clear q17);(try clear hcz11_0);(try clear hfz11_0);(try clear p2);(try clear q17);obtain ⟨x9_2,x37_2,rfl,HA,HK2,HO_9,HO_35,BK101,HB⟩:=hrel
        cases gk with
        | zero=>exact absurd HA.out (by simp [impl_UpAt.l0])
        | succ k2 =>
         have H:=HA.out;clear HA;simp only [impl_UpAt.l0] at H
         by_cases c22:x37_2 < (t109.length:Int)
         ·rw [if_pos c22] at H;have c22b0:=decide_eq_true c22;clear c22
          by_cases c23:0≤x37_2
          ·rw [if_pos c23] at H;have c23b0:=decide_eq_true c23;clear c23
           by_cases c24:x37_2 < (t109.length:Int)
           ·rw [if_pos c24] at H;have c24b0:=decide_eq_true c24;clear c24
            by_cases c25:0≤(rd t109 x37_2)
            ·rw [if_pos c25] at H;have c25b0:=decide_eq_true c25;clear c25
             by_cases c26:(rd t109 x37_2) < (l0.length:Int)
             ·rw [if_pos c26] at H;have c26b0:=decide_eq_true c26;clear c26
              by_cases c27:x9_2.length < 17592186044416
              ·rw [if_pos c27] at H;have LMc27:=am c27;clear c27;obtain ⟨y118,hy118⟩:∃ y_:List Int,y_=(x9_2 ++ [(rd_T41 l0 (rd t109 x37_2)).f1]):=⟨_,rfl⟩
               replace H:(impl_UpAt.l0 k2 l0 y118 t109 (t109.length:Int) (wrap64 (x37_2 + 1)))=some (r1,r2):=by first|(rw [hy118];with_reducible exact H)|(have H2_:=(Option.bind_some _ _).symm.trans H;rw [hy118];with_reducible exact H2_)|(have H2_:=(Option.bind_some _ _).symm.trans H;with_reducible exact H2_)|with_reducible exact H|(rw [hy118];exact H)|exact H
               have Ny118:=am hy118;clear hy118;have H':=am H;clear H;have p116:0≤(x37_2:Int):=of_decide_eq_true zq3;have q116:x37_2 < (t109.length:Int):=of_decide_eq_true zq3;obtain ⟨ad116,e116,hx116_0⟩:=Kd.at_int (Kd.R_reads' HO_35.out).2.2 x37_2 p116 q116;cases e116;replace p116:=eq_true p116;replace q116:=eq_true q116;have p117:0≤((rd t109 x37_2):Int):=of_decide_eq_true zq3;have q117:(rd t109 x37_2) < (l0.length:Int):=of_decide_eq_true zq3;obtain ⟨ad117,e117,hx117_0,hx117_1,hx117_2⟩:=at_T41 HR0.out (rd t109 x37_2) p117 q117;cases e117;replace hx117_0:=(HB.out.cell (World.block_lt_of_cell? w _ hx117_0)).trans hx117_0;replace hx117_1:=(HB.out.cell (World.block_lt_of_cell? w _ hx117_1)).trans hx117_1;replace hx117_2:=(HB.out.cell (World.block_lt_of_cell? w _ hx117_2)).trans hx117_2;replace p117:=eq_true p117;replace q117:=eq_true q117
               go_wp2_with (first|((with_reducible refine gate_builtin (b:=.append) (xs:=#[.tmp 41,.tmp 47]) rfl ?_);at_builtin;refine Kd.R_append (Kd.int .i64) (w0:=w) w.heap.size rfl (.tmp 41) (.tmp 47) 32 2 (.int .i64 0) 8 rfl Tryz.underlying32 info2 rfl (by decide) (by omega) u9 x9_2 ((rd_T41 l0 (rd t109 x37_2)).f1) [.int .i64 ((rd_T41 l0 (rd t109 x37_2)).f1)] (fun k_=>k_≠gb101) (fun _=>False) rfl rfl ?aP (fun _ hk=>hk.elim) ?aF ?aO ?aB ?aS ?aL ?_;(case aP=>exact rfl);(case aB=>exact zq5);(case aF=>exact (fun k_ hk=>Kd.freshB (g:=gb101) (o:=.cells #[.int .i64 a1] 2 (0,0)) zq7 k_ hk));(case aO=>exact zq13);(case aS=>exact (below_size zq5));(case aL=>have:=LMc27.out;omega);intro v119 w28 ho hb hg hat;rw [← Ny118.out] at ho;have n0_:=am (Kd.R_over' (by (with_reducible repeat (first|apply Kd.R_alloc|apply Kd.R_drewN|apply Kd.R_drew));exact HO_35.out) (Kd.R_typed zq13) (by decide) hg);have n1_:=am (blk_grown (g:=gb101) (o:=.cells #[.int .i64 a1] 2 (0,0)) zq7 hg (Kd.R_away HO_9.out (fun _ hk=>hk)));have n2_:=am (hb);have n3_:=am (ho);clear HO_35;clear BK101;clear HB;clear HO_9;have HO_35:=n0_;have BK101:=n1_;have HB:=n2_;have HO120:=n3_;clear n0_ n1_ n2_ n3_;clear ho hb hg hat))
               go_roundg k2
               case measure=>have:=HJ7.out;have:=HK2.out;omega
               case rel=>exact ⟨(y118),(wrap64 (x37_2 + 1)),zq2,H',⟨by have:=HJ7.out;have:=HK2.out;omega⟩,⟨by (with_reducible repeat (first|apply Kd.R_alloc|apply Kd.R_drewN|apply Kd.R_drew));exact HO120.out⟩,⟨by (with_reducible repeat (first|apply Kd.R_alloc|apply Kd.R_drewN|apply Kd.R_drew));exact HO_35.out⟩,⟨by (with_reducible repeat (first|refine blk_drewN ?_ _|refine blk_drew ?_|refine blk_alloc ?_ _));exact BK101.out⟩,⟨by repeat (first|(with_reducible first|exact HB.out|apply below_alloc|apply pw_below_drewN|apply below_drew1|refine below_set ?_ GE101.out)|exact HB.out)⟩⟩
              ·rw [if_neg c27] at H;exact absurd H (by simp)
             ·rw [if_neg c26] at H;exact absurd H (by simp)
            ·rw [if_neg c25] at H;exact absurd H (by simp)
           ·rw [if_neg c24] at H;exact absurd H (by simp)
          ·rw [if_neg c23] at H;exact absurd H (by simp)
         ·rw [if_neg c22] at H;have c22b0:=decide_eq_false c22;clear c22;simp only [Option.some.injEq,Prod.mk.injEq] at H;obtain ⟨rfl,rfl⟩:=H
          go_wp2
          go_ret2
          exact ⟨_,by first|rfl|(simp [errW_none,errW_some,IntKind.wrap_i64,wrap64];done)|(simp [errW_none,errW_some] <;> rfl)|(simp [*,errW_none,errW_some] <;> rfl),by (with_reducible repeat (first|apply Kd.R_alloc|apply Kd.R_drewN|apply Kd.R_drew));exact Kd.R_mono HO_9.out (fun _ hk=>trivial),by repeat (first|(with_reducible first|exact HB.out|apply below_alloc|apply pw_below_drewN|apply below_drew1|refine below_set ?_ GE101.out)|exact HB.out)⟩
      ·rw [if_neg c15] at H;exact absurd H (by simp)
     ·rw [if_neg c14] at H;exact absurd H (by simp)
  ·replace c6:=Bool.eq_false_iff.mpr c6;subst c6
   have H1:(some (([]:List Int),2))=some (r1,r2):=by rw [if_neg (show ¬ (false=true) by decide)] at H;exact H
   clear H;have H:=H1;clear H1;simp only [Option.some.injEq,Prod.mk.injEq] at H;obtain ⟨rfl,rfl⟩:=H
   go_enter Tryz.func11,Tryz.ntmps11
   go_wp2_with (first|((with_reducible refine gate_dst (N:=3) rfl ?_);refine box_event ?hg (N:=3) ?hd (cs:=#[.int .i64 a1]) (t:=2) ?hr ?_;(case hd=>rfl);(case hg=>rfl);(case hr=>exact zq9);intro gb101 hg w29 hbox hb;have n0_:=am (below_step zq0 hb);have n1_:=am (hbox);have n2_:=am ((by rw [hg];exact (below_size zq0):w.heap.size≤gb101));have n3_:=am ((by rw [hg];exact (below_size zq0):w.heap.size≤gb101));clear HB;have HB:=n0_;have BK101:=n1_;have GW101:=n2_;have GE101:=n3_;clear n0_ n1_ n2_ n3_;clear hb hbox hg)|((with_reducible refine gate_callee (f:=16) rfl ?_);refine goesL_ (some 14) rfl rfl Tryz.func16 zq18 rfl #[.slice A0 l0.length c0] rfl zq1 ?_;(with_reducible refine (impl_ValidLog.calls _ _ l0 true _ ?side1 ?side2 A3.out).mono ?_);(case side1=>exact zq4);(case side2=>exact HC0.out);rintro e w30 ⟨rfl,hb⟩;refine ⟨_,rfl,?_⟩;have n0_:=am (blk_below (g:=gb101) (o:=.cells #[.int .i64 a1] 2 (0,0)) zq7 hb);have n1_:=am (below_step zq5 hb);clear BK101;clear HB;have BK101:=n0_;have HB:=n1_;clear n0_ n1_;(try clear hb);(try clear hb2);(try clear hk);(try clear hi);have hcz31_0:w30.cell? ⟨gb101,0,none⟩=some (.int .i64 a1):=(blk_cell BK101.out 0).trans rfl;have hfz31_0:=blk_frozen BK101.out 0)|((with_reducible refine gate_callee (f:=32) rfl ?_);refine goesL_ (some 18) rfl rfl Tryz.func32 zq18 rfl #[.int .i64 a1,.int .i64 0,.int .i64 100000] rfl zq1 ?_;(with_reducible refine (impl_within.calls a1 0 100000 false _ A5.out).mono ?_);rintro e w' ⟨rfl,⟨nd,rfl⟩⟩;refine ⟨_,rfl,?_⟩))
   go_ret2
   exact ⟨_,by first|rfl|(simp [errW_none,errW_some,IntKind.wrap_i64,wrap64];done)|(simp [errW_none,errW_some] <;> rfl)|(simp [*,errW_none,errW_some] <;> rfl),by first|exact Kd.R_nil _ _ _ _ _|exact Kd.N_nil _ _ _ _ _|exact Kd.V_nil _ _ _ _ _|exact Kd.Q_nil _ _ _ _ _|exact Kd.S_nil _ _ _ _ _,by repeat (first|(with_reducible first|exact HB.out|apply below_alloc|apply pw_below_drewN|apply below_drew1|refine below_set ?_ GE101.out)|exact HB.out)⟩
 ·replace c4:=Bool.eq_false_iff.mpr c4;subst c4
  have H1:(some (([]:List Int),1))=some (r1,r2):=by rw [if_neg (show ¬ (false=true) by decide)] at H;exact H
  clear H;have H:=H1;clear H1;simp only [Option.some.injEq,Prod.mk.injEq] at H;obtain ⟨rfl,rfl⟩:=H
  go_enter Tryz.func11,Tryz.ntmps11
  go_wp2_with (first|((with_reducible refine gate_dst (N:=3) rfl ?_);refine box_event ?hg (N:=3) ?hd (cs:=#[.int .i64 a1]) (t:=2) ?hr ?_;(case hd=>rfl);(case hg=>rfl);(case hr=>exact zq9);intro gb101 hg w32 hbox hb;have n0_:=am (below_step zq0 hb);have n1_:=am (hbox);have n2_:=am ((by rw [hg];exact (below_size zq0):w.heap.size≤gb101));have n3_:=am ((by rw [hg];exact (below_size zq0):w.heap.size≤gb101));clear HB;have HB:=n0_;have BK101:=n1_;have GW101:=n2_;have GE101:=n3_;clear n0_ n1_ n2_ n3_;clear hb hbox hg)|((with_reducible refine gate_callee (f:=16) rfl ?_);refine goesL_ (some 14) rfl rfl Tryz.func16 zq18 rfl #[.slice A0 l0.length c0] rfl zq1 ?_;(with_reducible refine (impl_ValidLog.calls _ _ l0 false _ ?side1 ?side2 A3.out).mono ?_);(case side1=>exact zq4);(case side2=>exact HC0.out);rintro e w33 ⟨rfl,hb⟩;refine ⟨_,rfl,?_⟩;have n0_:=am (blk_below (g:=gb101) (o:=.cells #[.int .i64 a1] 2 (0,0)) zq7 hb);have n1_:=am (below_step zq5 hb);clear BK101;clear HB;have BK101:=n0_;have HB:=n1_;clear n0_ n1_;(try clear hb);(try clear hb2);(try clear hk);(try clear hi)))
  go_ret2
  exact ⟨_,by first|rfl|(simp [errW_none,errW_some,IntKind.wrap_i64,wrap64];done)|(simp [errW_none,errW_some] <;> rfl)|(simp [*,errW_none,errW_some] <;> rfl),by first|exact Kd.R_nil _ _ _ _ _|exact Kd.N_nil _ _ _ _ _|exact Kd.V_nil _ _ _ _ _|exact Kd.Q_nil _ _ _ _ _|exact Kd.S_nil _ _ _ _ _,by repeat (first|(with_reducible first|exact HB.out|apply below_alloc|apply pw_below_drewN|apply below_drew1|refine below_set ?_ GE101.out)|exact HB.out)⟩
def laws_f6big.f (l0:List Int):Option (Bool):=some (decide ((l0.length:Int) > 4096))
set_option maxHeartbeats 8000000 in
set_option maxRecDepth 100000 in
theorem laws_f6big.calls (A0:Option Addr) (c0:Nat) (l0:List Int) (r:Bool) (w:World) (hr0:Kd.C (Kd.int .u8) w A0 l0.length l0) (hc0:l0.length≤c0) (h:laws_f6big.f l0=some r) :
  Calls Tryz.prog 4 #[.slice A0 l0.length c0] w fun e w'=>e=.returned (.bool r)∧Drawn0 w w':=by
 have HR0:=am hr0;have HC0:=am hc0;clear hr0 hc0;have H:(some (decide ((l0.length:Int) > 4096)))=some r:=h;clear h;obtain rfl:=Option.some.inj H
 go_enter Tryz.func4,Tryz.ntmps4
 go_wp2
 go_ret
 exact ⟨by first|rfl|(simp only [IntKind.wrap_i64,wrap64];done)|(simp;done)|(simp [*];done),by repeat (first|exact Drawn0.refl _|apply Drawn0.step)⟩
def spec_l00In.f (a0:Int) (a1:Int) (a2:Int):Option (Bool):=if a0≥a1 then (some (decide (a0≤a2))) else (some false)
set_option maxHeartbeats 8000000 in
set_option maxRecDepth 100000 in
theorem spec_l00In.calls (a0:Int) (a1:Int) (a2:Int) (r:Bool) (w:World) (h:spec_l00In.f a0 a1 a2=some r) :
  Calls Tryz.prog 35 #[.int .i64 a0,.int .i64 a1,.int .i64 a2] w fun e w'=>e=.returned (.bool r)∧Drawn0 w w':=by
 have H:(if a0≥a1 then (some (decide (a0≤a2))) else (some false))=some r:=h;clear h
 by_cases c4:a0≥a1
 ·rw [if_pos c4] at H;have c4b0:decide (a1≤a0)=true:=decide_eq_true c4;clear c4;obtain rfl:=Option.some.inj H
  go_enter Tryz.func35,Tryz.ntmps35
  go_wp2
  go_ret
  exact ⟨by first|rfl|(simp only [IntKind.wrap_i64,wrap64];done)|(simp;done)|(simp [*];done),by repeat (first|exact Drawn0.refl _|apply Drawn0.step)⟩
 ·rw [if_neg c4] at H;have c4b0:decide (a1≤a0)=false:=decide_eq_false c4;clear c4;obtain rfl:=Option.some.inj H
  go_enter Tryz.func35,Tryz.ntmps35
  go_wp2
  go_ret
  exact ⟨by first|rfl|(simp only [IntKind.wrap_i64,wrap64];done)|(simp;done)|(simp [*];done),by repeat (first|exact Drawn0.refl _|apply Drawn0.step)⟩
mutual
def spec_l07Up.l0:Nat→List (S41)→Int→List Int→Int→Option (List Int × Bool)
 | 0,_,_,_,_=>none
 | k + 1,x0,x1,x6,x7=>if x7 < x1 then (spec_l07Up.l1 k x0 x1 x6 x7 (-1) 0) else (some (x6,true))
def spec_l07Up.l1:Nat→List (S41)→Int→List Int→Int→Int→Int→Option (List Int × Bool)
 | 0,_,_,_,_,_,_=>none
 | k + 1,x0,x1,x6,x7,x8,x9=>if x9 < (x6.length:Int) then (if 0≤x9 then (if 0≤(rd x6 x9) then (if (rd x6 x9) < (x0.length:Int) then (if 0≤x7 then (if x7 < (x0.length:Int) then (if ((rd_T41 x0 (rd x6 x9)).f1)=((rd_T41 x0 x7).f1) then (spec_l07Up.l1 k x0 x1 x6 x7 x9 (wrap64 (x9 + 1))) else (spec_l07Up.l1 k x0 x1 x6 x7 x8 (wrap64 (x9 + 1)))) else (none)) else (none)) else (none)) else (none)) else (none)) else (if 0≤x7 then (if x7 < (x0.length:Int) then (if (((rd_T41 x0 x7).f2) != (decide (x8≥0)))=true then (some ((([]:List Int)),false)) else (if x8 < 0 then (if x6.length < 17592186044416 then (spec_l07Up.l0 k x0 x1 (x6 ++ [x7]) (wrap64 (x7 + 1))) else (none)) else ((some (([]:List Int):List Int)).bind fun y114=>(if 0≤x8 then (if x8≤(x6.length:Int) then ((some (x6.take (x8:Int).toNat:List Int)).bind fun y117=>(if y114.length + y117.length < 17592186044416 then ((some (y114 ++ y117:List Int)).bind fun y121=>(if 0≤(wrap64 (x8 + 1)) then (if (wrap64 (x8 + 1))≤(x6.length:Int) then ((some (x6.drop ((wrap64 (x8 + 1)):Int).toNat:List Int)).bind fun y124=>(if y121.length + y124.length < 17592186044416 then (spec_l07Up.l0 k x0 x1 (y121 ++ y124) (wrap64 (x7 + 1))) else (none))) else (none)) else (none))) else (none))) else (none)) else (none))))) else (none)) else (none))
end
def spec_l07Up.f (k:Nat) (l0:List (S41)) (a1:Int):Option (List Int × Bool):=spec_l07Up.l0 k l0 a1 (([]:List Int)) 0
def spec_l07Up.T9:Bool × List (List Nat × List Nat):=(true,[([],[]),([],[]),([],[]),([1,2],[1,2]),([3],[3]),([0,4],[0,4]),([5],[5]),([6],[6]),([],[]),([],[]),([8,9],[8,9]),([10],[10]),([11],[11]),([7,12],[7,12])])
def spec_l07Up.B9:List Nat:=[0,0,0,6,14,31,63,127,0,0,768,1792,3840,8191]
theorem spec_l07Up.tab9:rtab .any (opsOf Tryz.f40 9)=spec_l07Up.T9:=by kernel_rfl
theorem spec_l07Up.bits9:waitsOk spec_l07Up.T9.2 spec_l07Up.B9=true:=by kernel_rfl
def spec_l07Up.T15:Bool × List (List Nat × List Nat):=(true,[([],[]),([],[]),([],[]),([1,2],[1,2]),([0,3],[0,3]),([],[]),([],[]),([6],[6]),([5,7],[5,7]),([4,8,4],[4,8]),([9,9,0,1,2,3,4,5,6,7,8,9],[1,5,9])])
def spec_l07Up.B15:List Nat:=[0,0,0,6,15,0,0,64,224,511,1023]
theorem spec_l07Up.tab15:rtab .any (opsOf Tryz.f40 15)=spec_l07Up.T15:=by kernel_rfl
theorem spec_l07Up.bits15:waitsOk spec_l07Up.T15.2 spec_l07Up.B15=true:=by kernel_rfl
set_option maxHeartbeats 8000000 in
set_option maxRecDepth 100000 in
theorem spec_l07Up.calls (k:Nat) (A0:Option Addr) (c0:Nat) (l0:List (S41)) (a1:Int) (r1:List Int) (r2:Bool) (w:World) (hr0:Kd.C k41 w A0 l0.length l0) (hc0:l0.length≤c0) (h:spec_l07Up.f k l0 a1=some (r1,r2)) :
  Calls Tryz.prog 40 #[.slice A0 l0.length c0,.int .i64 a1] w fun e w'=>∃ v0_:Value,e=.returned (.tuple #[v0_,.bool r2])∧Kd.R (Kd.int .i64) 3 w' w.heap.size (fun _=>True) v0_ r1∧Below w.heap.size w w':=by
 have HR0:=am hr0;have HC0:=am hc0;clear hr0 hc0;have HB:=am (Below.refl w.heap.size w);have H:(spec_l07Up.l0 k l0 a1 (([]:List Int)) 0)=some (r1,r2):=h;clear h;obtain ⟨y101,hy101⟩:∃ y_:List Int,y_=(([]:List Int)):=⟨_,rfl⟩
 replace H:(spec_l07Up.l0 k l0 a1 y101 0)=some (r1,r2):=by first|(rw [hy101];with_reducible exact H)|(have H2_:=(Option.bind_some _ _).symm.trans H;rw [hy101];with_reducible exact H2_)|(have H2_:=(Option.bind_some _ _).symm.trans H;with_reducible exact H2_)|with_reducible exact H|(rw [hy101];exact H)|exact H
 have Ny101:=am hy101;clear hy101;have H':=am H;clear H
 go_enter Tryz.func40,Tryz.ntmps40
 go_wp2_with (first|((with_reducible refine gate_dst (N:=10) rfl ?_);refine Kd.R_lit (Kd.int .i64) _ 3 ?hg (N:=10) ?hd (xs:=([]:List Int)) (inner:=[]) (ok:=fun _=>True) (okp:=fun _=>True) ?hr ?hp (fun _ hk=>hk) trivial (Below.refl _ _) (Nat.le_refl _) (by simp) ?_;(case hd=>rfl);(case hg=>rfl);(case hr=>exact zq9);(case hp=>exact (Reps.none _ _));intro v102 w3 ho4 hb hg_ hnew_;clear hg_ hnew_;(first|rw [← Ny101.out] at ho4|(simp only [Int.reduceToNat] at ho4;rw [← Ny101.out] at ho4));have n0_:=am (Kd.R_lower ho4 (below_size zq0));have n1_:=am (below_step zq0 hb);clear HB;have HO103:=n0_;have HB:=n1_;clear n0_ n1_;clear hb ho4))
 go_loopg [6,7] k (fun kq v6 v7 w'=>∃ (x6_1:List Int) (x7_1:Int),v7=.int .i64 x7_1∧Aside0 (spec_l07Up.l0 kq l0 a1 x6_1 x7_1=some (r1,r2))∧Aside0 (kq≤k)∧Aside0 (Kd.R (Kd.int .i64) 3 w' w.heap.size (fun _=>True) v6 x6_1)∧Aside0 (Below w.heap.size w w'))
 case atStart=>exact ⟨(y101),(0),zq2,H',⟨Nat.le_refl _⟩,⟨by (with_reducible repeat (first|apply Kd.R_alloc|apply Kd.R_drewN|apply Kd.R_drew));exact HO103.out⟩,⟨by repeat (first|(with_reducible first|exact HB.out|apply below_alloc|apply pw_below_drewN|apply below_drew1)|exact HB.out)⟩⟩
 case round =>
  clear H';(try clear p2);(try clear c4);obtain ⟨x6_1,x7_1,rfl,HA,HK1,HO_6,HB⟩:=hrel
  cases gk with
  | zero=>exact absurd HA.out (by simp [spec_l07Up.l0])
  | succ k1 =>
   have H:=HA.out;clear HA;simp only [spec_l07Up.l0] at H
   by_cases c5:x7_1 < a1
   ·rw [if_pos c5] at H;have c5b0:=decide_eq_true c5;clear c5;have H':=am H;clear H
    go_wp2
    go_loopg [8,9] k1 (fun kq v8 v9 w'=>∃ (x8_2:Int) (x9_2:Int),v8=.int .i64 x8_2∧v9=.int .i64 x9_2∧Aside0 (spec_l07Up.l1 kq l0 a1 x6_1 x7_1 x8_2 x9_2=some (r1,r2))∧Aside0 (kq≤k1)∧Aside0 (Kd.R (Kd.int .i64) 3 w' w.heap.size (fun _=>True) u6 x6_1)∧Aside0 (Below w.heap.size w w'))
    case atStart=>exact ⟨((-1)),(0),zq2,zq2,H',⟨Nat.le_refl _⟩,⟨by (with_reducible repeat (first|apply Kd.R_alloc|apply Kd.R_drewN|apply Kd.R_drew));exact HO_6.out⟩,⟨by repeat (first|(with_reducible first|exact HB.out|apply below_alloc|apply pw_below_drewN|apply below_drew1)|exact HB.out)⟩⟩
    case round =>
     clear H';(try clear p2);(try clear c4);(try clear c5);(try clear c5b0);(try clear p2);obtain ⟨x8_2,x9_2,rfl,rfl,HA,HK2,HO_6,HB⟩:=hrel
     cases gk with
     | zero=>exact absurd HA.out (by simp [spec_l07Up.l1])
     | succ k2 =>
      have H:=HA.out;clear HA;simp only [spec_l07Up.l1] at H
      by_cases c6:x9_2 < (x6_1.length:Int)
      ·rw [if_pos c6] at H;have c6b0:=decide_eq_true c6;clear c6
       by_cases c7:0≤x9_2
       ·rw [if_pos c7] at H;have c7b0:=decide_eq_true c7;clear c7
        by_cases c8:0≤(rd x6_1 x9_2)
        ·rw [if_pos c8] at H;have c8b0:=decide_eq_true c8;clear c8
         by_cases c9:(rd x6_1 x9_2) < (l0.length:Int)
         ·rw [if_pos c9] at H;have c9b0:=decide_eq_true c9;clear c9
          by_cases c10:0≤x7_1
          ·rw [if_pos c10] at H;have c10b0:=decide_eq_true c10;clear c10
           by_cases c11:x7_1 < (l0.length:Int)
           ·rw [if_pos c11] at H;have c11b0:=decide_eq_true c11;clear c11
            by_cases c12:((rd_T41 l0 (rd x6_1 x9_2)).f1)=((rd_T41 l0 x7_1).f1)
            ·rw [if_pos c12] at H;have c12b0:=beq_iff_eq.mpr c12;have c12b1:=bne_eq_false_iff_eq.mpr c12;clear c12;have H':=am H;clear H;obtain ⟨Ao13,co13,eo13⟩:=Kd.R_slice HO_6.out;subst eo13;(try go_wp2);have n0_:=am (Kd.R_drew HO_6.out);have n1_:=am (below_drew1 HB.out);clear HO_6;clear HB;have HO_6:=n0_;have HB:=n1_;clear n0_ n1_;have p104:0≤(x9_2:Int):=of_decide_eq_true zq3;have q104:x9_2 < (x6_1.length:Int):=of_decide_eq_true zq3;obtain ⟨ad104,e104,hx104_0⟩:=Kd.at_int (Kd.R_reads' HO_6.out).2.2 x9_2 p104 q104;cases e104;replace p104:=eq_true p104;replace q104:=eq_true q104;have p105:0≤((rd x6_1 x9_2):Int):=of_decide_eq_true zq3;have q105:(rd x6_1 x9_2) < (l0.length:Int):=of_decide_eq_true zq3;obtain ⟨ad105,e105,hx105_0,hx105_1,hx105_2⟩:=at_T41 HR0.out (rd x6_1 x9_2) p105 q105;have hw105_2:=hx105_2;have hw105_1:=hx105_1;have hw105_0:=hx105_0;cases e105;replace hx105_0:=(HB.out.cell (World.block_lt_of_cell? w _ hx105_0)).trans hx105_0;replace hx105_1:=(HB.out.cell (World.block_lt_of_cell? w _ hx105_1)).trans hx105_1;replace hx105_2:=(HB.out.cell (World.block_lt_of_cell? w _ hx105_2)).trans hx105_2;replace p105:=eq_true p105;replace q105:=eq_true q105;have p106:0≤(x7_1:Int):=of_decide_eq_true zq3;have q106:x7_1 < (l0.length:Int):=of_decide_eq_true zq3;obtain ⟨ad106,e106,hx106_0,hx106_1,hx106_2⟩:=at_T41 HR0.out x7_1 p106 q106;have hw106_2:=hx106_2;have hw106_1:=hx106_1;have hw106_0:=hx106_0;obtain rfl:ad105=ad106:=(by injection e106);replace hx106_0:=(HB.out.cell (World.block_lt_of_cell? w _ hx106_0)).trans hx106_0;replace hx106_1:=(HB.out.cell (World.block_lt_of_cell? w _ hx106_1)).trans hx106_1;replace hx106_2:=(HB.out.cell (World.block_lt_of_cell? w _ hx106_2)).trans hx106_2;replace p106:=eq_true p106;replace q106:=eq_true q106;refine start_ (n:=14) (S:=fun w'=>w'.cell? (ad104.add (x9_2).toNat)=some (.int .i64 (rd x6_1 x9_2))∧w'.cell? (ad105.add (((rd x6_1 x9_2)).toNat * 3))=some (.int .i64 ((rd_T41 l0 (rd x6_1 x9_2)).f0))∧w'.cell? ⟨(ad105.add (((rd x6_1 x9_2)).toNat * 3)).block,(ad105.add (((rd x6_1 x9_2)).toNat * 3)).off + 1,none⟩=some (.int .i64 ((rd_T41 l0 (rd x6_1 x9_2)).f1))∧w'.cell? ⟨(ad105.add (((rd x6_1 x9_2)).toNat * 3)).block,(ad105.add (((rd x6_1 x9_2)).toNat * 3)).off + 2,none⟩=some (.bool ((rd_T41 l0 (rd x6_1 x9_2)).f2))∧w'.cell? (ad105.add ((x7_1).toNat * 3))=some (.int .i64 ((rd_T41 l0 x7_1).f0))∧w'.cell? ⟨(ad105.add ((x7_1).toNat * 3)).block,(ad105.add ((x7_1).toNat * 3)).off + 1,none⟩=some (.int .i64 ((rd_T41 l0 x7_1).f1))∧w'.cell? ⟨(ad105.add ((x7_1).toNat * 3)).block,(ad105.add ((x7_1).toNat * 3)).off + 2,none⟩=some (.bool ((rd_T41 l0 x7_1).f2))) (ds:=[]) #[false,false,false,false,false,false,false,false,false,false,false,false,false,false] zq18 rfl rfl ⟨hx104_0,((HB.out.cell (World.block_lt_of_cell? w _ hw105_0)).trans hw105_0),((HB.out.cell (World.block_lt_of_cell? w _ hw105_1)).trans hw105_1),((HB.out.cell (World.block_lt_of_cell? w _ hw105_2)).trans hw105_2),((HB.out.cell (World.block_lt_of_cell? w _ hw106_0)).trans hw106_0),((HB.out.cell (World.block_lt_of_cell? w _ hw106_1)).trans hw106_1),((HB.out.cell (World.block_lt_of_cell? w _ hw106_2)).trans hw106_2)⟩ (fun hHeld=>?_);refine with_tabW spec_l07Up.tab9 spec_l07Up.bits9 (fun HT_ HW_=>?_);generalize wr.drew=w14 at HO_6 HB hx104_0 hx105_0 hx105_1 hx105_2 hx106_0 hx106_1 hx106_2 hHeld ⊢;refine pw_ 0 22 ?_;refine pw_ 1 23 ?_;refine pw_ 2 24 ?_;refine pw_ 3 25 ?_;refine pw_ 8 30 ?_;refine pw_ 9 31 ?_;refine pw_ 10 32 ?_;refine pw_ 11 33 ?_;refine tw7_ 4 26 ?_;refine pw_ 5 27 ?_;refine pw_ 6 28 ?_;refine tw7_ 7 29 ?_;refine tw7_ 12 34 ?_;refine pw_ 13 35 ?_;refine done_ (done_of HT_.out zq18) ?_;(try go_wp2)
             go_roundg k2
             case measure=>have:=HK1.out;have:=HK2.out;omega
             case rel=>exact ⟨(x9_2),(wrap64 (x9_2 + 1)),zq2,zq2,H',⟨by have:=HK1.out;have:=HK2.out;omega⟩,⟨by (with_reducible repeat (first|apply Kd.R_alloc|apply Kd.R_drewN|apply Kd.R_drew));exact HO_6.out⟩,⟨by repeat (first|(with_reducible first|exact HB.out|apply below_alloc|apply pw_below_drewN|apply below_drew1)|exact HB.out)⟩⟩
            ·rw [if_neg c12] at H;have c12b0:=beq_eq_false_iff_ne.mpr c12;have c12b1:=bne_iff_ne.mpr c12;have H':=am H;clear H;obtain ⟨Ao15,co15,eo15⟩:=Kd.R_slice HO_6.out;subst eo15;(try go_wp2);have n0_:=am (Kd.R_drew HO_6.out);have n1_:=am (below_drew1 HB.out);clear HO_6;clear HB;have HO_6:=n0_;have HB:=n1_;clear n0_ n1_;have p104:0≤(x9_2:Int):=of_decide_eq_true zq3;have q104:x9_2 < (x6_1.length:Int):=of_decide_eq_true zq3;obtain ⟨ad104,e104,hx104_0⟩:=Kd.at_int (Kd.R_reads' HO_6.out).2.2 x9_2 p104 q104;cases e104;replace p104:=eq_true p104;replace q104:=eq_true q104;have p105:0≤((rd x6_1 x9_2):Int):=of_decide_eq_true zq3;have q105:(rd x6_1 x9_2) < (l0.length:Int):=of_decide_eq_true zq3;obtain ⟨ad105,e105,hx105_0,hx105_1,hx105_2⟩:=at_T41 HR0.out (rd x6_1 x9_2) p105 q105;have hw105_2:=hx105_2;have hw105_1:=hx105_1;have hw105_0:=hx105_0;cases e105;replace hx105_0:=(HB.out.cell (World.block_lt_of_cell? w _ hx105_0)).trans hx105_0;replace hx105_1:=(HB.out.cell (World.block_lt_of_cell? w _ hx105_1)).trans hx105_1;replace hx105_2:=(HB.out.cell (World.block_lt_of_cell? w _ hx105_2)).trans hx105_2;replace p105:=eq_true p105;replace q105:=eq_true q105;have p106:0≤(x7_1:Int):=of_decide_eq_true zq3;have q106:x7_1 < (l0.length:Int):=of_decide_eq_true zq3;obtain ⟨ad106,e106,hx106_0,hx106_1,hx106_2⟩:=at_T41 HR0.out x7_1 p106 q106;have hw106_2:=hx106_2;have hw106_1:=hx106_1;have hw106_0:=hx106_0;obtain rfl:ad105=ad106:=(by injection e106);replace hx106_0:=(HB.out.cell (World.block_lt_of_cell? w _ hx106_0)).trans hx106_0;replace hx106_1:=(HB.out.cell (World.block_lt_of_cell? w _ hx106_1)).trans hx106_1;replace hx106_2:=(HB.out.cell (World.block_lt_of_cell? w _ hx106_2)).trans hx106_2;replace p106:=eq_true p106;replace q106:=eq_true q106;refine start_ (n:=14) (S:=fun w'=>w'.cell? (ad104.add (x9_2).toNat)=some (.int .i64 (rd x6_1 x9_2))∧w'.cell? (ad105.add (((rd x6_1 x9_2)).toNat * 3))=some (.int .i64 ((rd_T41 l0 (rd x6_1 x9_2)).f0))∧w'.cell? ⟨(ad105.add (((rd x6_1 x9_2)).toNat * 3)).block,(ad105.add (((rd x6_1 x9_2)).toNat * 3)).off + 1,none⟩=some (.int .i64 ((rd_T41 l0 (rd x6_1 x9_2)).f1))∧w'.cell? ⟨(ad105.add (((rd x6_1 x9_2)).toNat * 3)).block,(ad105.add (((rd x6_1 x9_2)).toNat * 3)).off + 2,none⟩=some (.bool ((rd_T41 l0 (rd x6_1 x9_2)).f2))∧w'.cell? (ad105.add ((x7_1).toNat * 3))=some (.int .i64 ((rd_T41 l0 x7_1).f0))∧w'.cell? ⟨(ad105.add ((x7_1).toNat * 3)).block,(ad105.add ((x7_1).toNat * 3)).off + 1,none⟩=some (.int .i64 ((rd_T41 l0 x7_1).f1))∧w'.cell? ⟨(ad105.add ((x7_1).toNat * 3)).block,(ad105.add ((x7_1).toNat * 3)).off + 2,none⟩=some (.bool ((rd_T41 l0 x7_1).f2))) (ds:=[]) #[false,false,false,false,false,false,false,false,false,false,false,false,false,false] zq18 rfl rfl ⟨hx104_0,((HB.out.cell (World.block_lt_of_cell? w _ hw105_0)).trans hw105_0),((HB.out.cell (World.block_lt_of_cell? w _ hw105_1)).trans hw105_1),((HB.out.cell (World.block_lt_of_cell? w _ hw105_2)).trans hw105_2),((HB.out.cell (World.block_lt_of_cell? w _ hw106_0)).trans hw106_0),((HB.out.cell (World.block_lt_of_cell? w _ hw106_1)).trans hw106_1),((HB.out.cell (World.block_lt_of_cell? w _ hw106_2)).trans hw106_2)⟩ (fun hHeld=>?_);refine with_tabW spec_l07Up.tab9 spec_l07Up.bits9 (fun HT_ HW_=>?_);generalize wr.drew=w16 at HO_6 HB hx104_0 hx105_0 hx105_1 hx105_2 hx106_0 hx106_1 hx106_2 hHeld ⊢;refine pw_ 0 22 ?_;refine pw_ 1 23 ?_;refine pw_ 2 24 ?_;refine pw_ 3 25 ?_;refine pw_ 8 30 ?_;refine pw_ 9 31 ?_;refine pw_ 10 32 ?_;refine pw_ 11 33 ?_;refine tw7_ 4 26 ?_;refine pw_ 5 27 ?_;refine pw_ 6 28 ?_;refine tw7_ 7 29 ?_;refine tw7_ 12 34 ?_;refine pw_ 13 35 ?_;refine done_ (done_of HT_.out zq18) ?_;(try go_wp2)
             go_roundg k2
             case measure=>have:=HK1.out;have:=HK2.out;omega
             case rel=>exact ⟨(x8_2),(wrap64 (x9_2 + 1)),zq2,zq2,H',⟨by have:=HK1.out;have:=HK2.out;omega⟩,⟨by (with_reducible repeat (first|apply Kd.R_alloc|apply Kd.R_drewN|apply Kd.R_drew));exact HO_6.out⟩,⟨by repeat (first|(with_reducible first|exact HB.out|apply below_alloc|apply pw_below_drewN|apply below_drew1)|exact HB.out)⟩⟩
           ·rw [if_neg c11] at H;exact absurd H (by simp)
          ·rw [if_neg c10] at H;exact absurd H (by simp)
         ·rw [if_neg c9] at H;exact absurd H (by simp)
        ·rw [if_neg c8] at H;exact absurd H (by simp)
       ·rw [if_neg c7] at H;exact absurd H (by simp)
      ·rw [if_neg c6] at H;have c6b0:=decide_eq_false c6;clear c6
       by_cases c17:0≤x7_1
       ·rw [if_pos c17] at H;have c17b0:=decide_eq_true c17;clear c17
        by_cases c18:x7_1 < (l0.length:Int)
        ·rw [if_pos c18] at H;have c18b0:=decide_eq_true c18;clear c18
         by_cases c19:(((rd_T41 l0 x7_1).f2) != (decide (x8_2≥0)))=true
         ·rw [if_pos c19] at H;have c19b0:(((rd_T41 l0 x7_1).f2) != (decide (x8_2≥0)))=true:=c19;(try (have c19b1:decide (((rd_T41 l0 x7_1).f2)=(decide (x8_2≥0)))=false:=by simpa using c19));(try (have c19b2:(((rd_T41 l0 x7_1).f2) == (decide (x8_2≥0)))=false:=by simpa using c19));(try (have c19b3:¬ (((rd_T41 l0 x7_1).f2)=(decide (x8_2≥0))):=by simpa using c19));clear c19;obtain ⟨y108,hy108⟩:∃ y_:List Int,y_=(([]:List Int)):=⟨_,rfl⟩
          replace H:(some (y108,false))=some (r1,r2):=by first|(rw [hy108];with_reducible exact H)|(have H2_:=(Option.bind_some _ _).symm.trans H;rw [hy108];with_reducible exact H2_)|(have H2_:=(Option.bind_some _ _).symm.trans H;with_reducible exact H2_)|with_reducible exact H|(rw [hy108];exact H)|exact H
          have Ny108:=am hy108;clear hy108;simp only [Option.some.injEq,Prod.mk.injEq] at H;obtain ⟨rfl,rfl⟩:=H;obtain ⟨Ao20,co20,eo20⟩:=Kd.R_slice HO_6.out;subst eo20;have p107:0≤(x7_1:Int):=of_decide_eq_true zq3;have q107:x7_1 < (l0.length:Int):=of_decide_eq_true zq3;obtain ⟨ad107,e107,hx107_0,hx107_1,hx107_2⟩:=at_T41 HR0.out x7_1 p107 q107;cases e107;replace hx107_0:=(HB.out.cell (World.block_lt_of_cell? w _ hx107_0)).trans hx107_0;replace hx107_1:=(HB.out.cell (World.block_lt_of_cell? w _ hx107_1)).trans hx107_1;replace hx107_2:=(HB.out.cell (World.block_lt_of_cell? w _ hx107_2)).trans hx107_2;replace p107:=eq_true p107;replace q107:=eq_true q107
          go_wp2_with (first|((with_reducible refine gate_dst (N:=45) rfl ?_);refine Kd.R_lit (Kd.int .i64) _ 3 ?hg (N:=45) ?hd (xs:=([]:List Int)) (inner:=[]) (ok:=fun _=>True) (okp:=fun _=>True) ?hr ?hp (fun _ hk=>hk) trivial (Below.refl _ _) (Nat.le_refl _) (by simp) ?_;(case hd=>rfl);(case hg=>rfl);(case hr=>exact zq9);(case hp=>exact (Reps.none _ _));intro v109 w21 ho22 hb hg_ hnew_;clear hg_ hnew_;(first|rw [← Ny108.out] at ho22|(simp only [Int.reduceToNat] at ho22;rw [← Ny108.out] at ho22));have n0_:=am (Kd.R_elder' zq10 (Kd.R_base ho22) hb);have n1_:=am (Kd.R_lower (Kd.R_new' ho22 (Kd.R_lt zq10)) (below_size zq0));have n2_:=am (below_step zq0 hb);clear HO_6;clear HB;have HO_6:=n0_;have HO110:=n1_;have HB:=n2_;clear n0_ n1_ n2_;clear hb ho22))
          go_ret2
          exact ⟨_,by first|rfl|(simp [errW_none,errW_some,IntKind.wrap_i64,wrap64];done)|(simp [errW_none,errW_some] <;> rfl)|(simp [*,errW_none,errW_some] <;> rfl),by (with_reducible repeat (first|apply Kd.R_alloc|apply Kd.R_drewN|apply Kd.R_drew));exact Kd.R_mono HO110.out (fun _ hk=>trivial),by repeat (first|(with_reducible first|exact HB.out|apply below_alloc|apply pw_below_drewN|apply below_drew1)|exact HB.out)⟩
         ·rw [if_neg c19] at H
          have c19b0:(((rd_T41 l0 x7_1).f2) != (decide (x8_2≥0)))=false:=by simpa using c19
          (try (have c19b1:decide (((rd_T41 l0 x7_1).f2)=(decide (x8_2≥0)))=true:=by simpa using c19));(try (have c19b2:(((rd_T41 l0 x7_1).f2) == (decide (x8_2≥0)))=true:=by simpa using c19));clear c19
          by_cases c23:x8_2 < 0
          ·rw [if_pos c23] at H;have c23b0:=decide_eq_true c23
           have c19z:((rd_T41 l0 x7_1).f2)=false:=by have h_:=c19b0;rw [show decide (x8_2≥0)=false from decide_eq_false (by omega)] at h_;simpa using h_
           have c19y:decide (0≤x8_2)=false:=decide_eq_false (by omega);clear c23
           by_cases c24:x6_1.length < 17592186044416
           ·rw [if_pos c24] at H;have LMc24:=am c24;clear c24;obtain ⟨y111,hy111⟩:∃ y_:List Int,y_=(x6_1 ++ [x7_1]):=⟨_,rfl⟩
            replace H:(spec_l07Up.l0 k2 l0 a1 y111 (wrap64 (x7_1 + 1)))=some (r1,r2):=by first|(rw [hy111];with_reducible exact H)|(have H2_:=(Option.bind_some _ _).symm.trans H;rw [hy111];with_reducible exact H2_)|(have H2_:=(Option.bind_some _ _).symm.trans H;with_reducible exact H2_)|with_reducible exact H|(rw [hy111];exact H)|exact H
            have Ny111:=am hy111;clear hy111;have H':=am H;clear H;obtain ⟨Ao25,co25,eo25⟩:=Kd.R_slice HO_6.out;subst eo25;have p107:0≤(x7_1:Int):=of_decide_eq_true zq3;have q107:x7_1 < (l0.length:Int):=of_decide_eq_true zq3;obtain ⟨ad107,e107,hx107_0,hx107_1,hx107_2⟩:=at_T41 HR0.out x7_1 p107 q107;cases e107;replace hx107_0:=(HB.out.cell (World.block_lt_of_cell? w _ hx107_0)).trans hx107_0;replace hx107_1:=(HB.out.cell (World.block_lt_of_cell? w _ hx107_1)).trans hx107_1;replace hx107_2:=(HB.out.cell (World.block_lt_of_cell? w _ hx107_2)).trans hx107_2;replace p107:=eq_true p107;replace q107:=eq_true q107
            go_wp2_with (first|((with_reducible refine gate_builtin (b:=.append) (xs:=#[.tmp 48,.tmp 50]) rfl ?_);at_builtin;refine Kd.R_append (Kd.int .i64) (w0:=w) w.heap.size rfl (.tmp 48) (.tmp 50) 72 3 (.int .i64 0) 8 rfl Tryz.underlying72 info3 rfl (by decide) (by omega) (.slice Ao25 x6_1.length co25) x6_1 x7_1 [.int .i64 x7_1] (fun _=>True) (fun _=>False) rfl rfl ?aP (fun _ hk=>hk.elim) ?aF ?aO ?aB ?aS ?aL ?_;(case aP=>exact rfl);(case aB=>exact zq0);(case aF=>exact (fun _ _=>trivial));(case aO=>exact zq10);(case aS=>exact (below_size zq0));(case aL=>have:=LMc24.out;omega);intro v112 w26 ho hb hg hat;rw [← Ny111.out] at ho;have n0_:=am (hb);have n1_:=am (ho);clear HB;clear HO_6;have HB:=n0_;have HO113:=n1_;clear n0_ n1_;clear ho hb hg hat))
            go_roundg k2
            case measure=>have:=HK1.out;have:=HK2.out;omega
            case rel=>exact ⟨(y111),(wrap64 (x7_1 + 1)),zq2,H',⟨by have:=HK1.out;have:=HK2.out;omega⟩,⟨by (with_reducible repeat (first|apply Kd.R_alloc|apply Kd.R_drewN|apply Kd.R_drew));exact HO113.out⟩,⟨by repeat (first|(with_reducible first|exact HB.out|apply below_alloc|apply pw_below_drewN|apply below_drew1)|exact HB.out)⟩⟩
           ·rw [if_neg c24] at H;exact absurd H (by simp)
          ·rw [if_neg c23] at H;have c23b0:=decide_eq_false c23
           have c19z:(!(rd_T41 l0 x7_1).f2)=false:=by have h_:=c19b0;rw [show decide (x8_2≥0)=true from decide_eq_true (by omega)] at h_;simpa using h_
           have c19y:decide (0≤x8_2)=true:=decide_eq_true (by omega);clear c23;obtain ⟨y114,hy114⟩:∃ y_:List Int,y_=(([]:List Int)):=⟨_,rfl⟩
           replace H:(if 0≤x8_2 then (if x8_2≤(x6_1.length:Int) then ((some (x6_1.take (x8_2:Int).toNat:List Int)).bind fun y117=>(if y114.length + y117.length < 17592186044416 then ((some (y114 ++ y117:List Int)).bind fun y121=>(if 0≤(wrap64 (x8_2 + 1)) then (if (wrap64 (x8_2 + 1))≤(x6_1.length:Int) then ((some (x6_1.drop ((wrap64 (x8_2 + 1)):Int).toNat:List Int)).bind fun y124=>(if y121.length + y124.length < 17592186044416 then (spec_l07Up.l0 k2 l0 a1 (y121 ++ y124) (wrap64 (x7_1 + 1))) else (none))) else (none)) else (none))) else (none))) else (none)) else (none))=some (r1,r2):=by first|(rw [hy114];with_reducible exact H)|(have H2_:=(Option.bind_some _ _).symm.trans H;rw [hy114];with_reducible exact H2_)|(have H2_:=(Option.bind_some _ _).symm.trans H;with_reducible exact H2_)|with_reducible exact H|(rw [hy114];exact H)|exact H
           have Ny114:=am hy114;clear hy114
           by_cases c27:0≤x8_2
           ·rw [if_pos c27] at H;have c27b0:=eq_true c27;have c27b1:=decide_eq_true c27;clear c27
            by_cases c28:x8_2≤(x6_1.length:Int)
            ·rw [if_pos c28] at H;have c28b0:=eq_true c28;have c28b1:=decide_eq_true c28;clear c28;obtain ⟨y117,hy117⟩:∃ y_:List Int,y_=(x6_1.take (x8_2:Int).toNat):=⟨_,rfl⟩
             replace H:(if y114.length + y117.length < 17592186044416 then ((some (y114 ++ y117:List Int)).bind fun y121=>(if 0≤(wrap64 (x8_2 + 1)) then (if (wrap64 (x8_2 + 1))≤(x6_1.length:Int) then ((some (x6_1.drop ((wrap64 (x8_2 + 1)):Int).toNat:List Int)).bind fun y124=>(if y121.length + y124.length < 17592186044416 then (spec_l07Up.l0 k2 l0 a1 (y121 ++ y124) (wrap64 (x7_1 + 1))) else (none))) else (none)) else (none))) else (none))=some (r1,r2):=by first|(rw [hy117];with_reducible exact H)|(have H2_:=(Option.bind_some _ _).symm.trans H;rw [hy117];with_reducible exact H2_)|(have H2_:=(Option.bind_some _ _).symm.trans H;with_reducible exact H2_)|with_reducible exact H|(rw [hy117];exact H)|exact H
             have Ny117:=am hy117;clear hy117
             by_cases c29:y114.length + y117.length < 17592186044416
             ·rw [if_pos c29] at H;have LMc29:=am c29;clear c29;obtain ⟨y121,hy121⟩:∃ y_:List Int,y_=(y114 ++ y117):=⟨_,rfl⟩
              replace H:(if 0≤(wrap64 (x8_2 + 1)) then (if (wrap64 (x8_2 + 1))≤(x6_1.length:Int) then ((some (x6_1.drop ((wrap64 (x8_2 + 1)):Int).toNat:List Int)).bind fun y124=>(if y121.length + y124.length < 17592186044416 then (spec_l07Up.l0 k2 l0 a1 (y121 ++ y124) (wrap64 (x7_1 + 1))) else (none))) else (none)) else (none))=some (r1,r2):=by first|(rw [hy121];with_reducible exact H)|(have H2_:=(Option.bind_some _ _).symm.trans H;rw [hy121];with_reducible exact H2_)|(have H2_:=(Option.bind_some _ _).symm.trans H;with_reducible exact H2_)|with_reducible exact H|(rw [hy121];exact H)|exact H
              have Ny121:=am hy121;clear hy121;obtain ⟨ji30,hji30⟩:∃ j_:Int,(wrap64 (x8_2 + 1))=j_:=⟨_,rfl⟩
              replace H:(if 0≤(ji30) then (if (ji30)≤(x6_1.length:Int) then ((some (x6_1.drop ((ji30):Int).toNat:List Int)).bind fun y124=>(if y121.length + y124.length < 17592186044416 then (spec_l07Up.l0 k2 l0 a1 (y121 ++ y124) (wrap64 (x7_1 + 1))) else (none))) else (none)) else (none))=some (r1,r2):=by first|(rw [hji30] at H;exact H)|(simp only [hji30] at H ⊢;exact H)
              have hji30w:(IntKind.i64.wrap (x8_2 + 1))=ji30:=(i64_w _).trans hji30
              by_cases c31:0≤(ji30)
              ·rw [if_pos c31] at H;have c31b0:=eq_true c31;have c31b1:=decide_eq_true c31;clear c31
               by_cases c32:(ji30)≤(x6_1.length:Int)
               ·rw [if_pos c32] at H;have c32b0:=eq_true c32;have c32b1:=decide_eq_true c32;clear c32;obtain ⟨y124,hy124⟩:∃ y_:List Int,y_=(x6_1.drop ((ji30):Int).toNat):=⟨_,rfl⟩
                replace H:(if y121.length + y124.length < 17592186044416 then (spec_l07Up.l0 k2 l0 a1 (y121 ++ y124) (wrap64 (x7_1 + 1))) else (none))=some (r1,r2):=by first|(rw [hy124];with_reducible exact H)|(have H2_:=(Option.bind_some _ _).symm.trans H;rw [hy124];with_reducible exact H2_)|(have H2_:=(Option.bind_some _ _).symm.trans H;with_reducible exact H2_)|with_reducible exact H|(rw [hy124];exact H)|exact H
                have Ny124:=am hy124;clear hy124
                by_cases c33:y121.length + y124.length < 17592186044416
                ·rw [if_pos c33] at H;have LMc33:=am c33;clear c33;obtain ⟨y128,hy128⟩:∃ y_:List Int,y_=(y121 ++ y124):=⟨_,rfl⟩
                 replace H:(spec_l07Up.l0 k2 l0 a1 y128 (wrap64 (x7_1 + 1)))=some (r1,r2):=by first|(rw [hy128];with_reducible exact H)|(have H2_:=(Option.bind_some _ _).symm.trans H;rw [hy128];with_reducible exact H2_)|(have H2_:=(Option.bind_some _ _).symm.trans H;with_reducible exact H2_)|with_reducible exact H|(rw [hy128];exact H)|exact H
                 have Ny128:=am hy128;clear hy128;have H':=am H;clear H;obtain ⟨Ao34,co34,eo34⟩:=Kd.R_slice HO_6.out;subst eo34;have p107:0≤(x7_1:Int):=of_decide_eq_true zq3;have q107:x7_1 < (l0.length:Int):=of_decide_eq_true zq3;obtain ⟨ad107,e107,hx107_0,hx107_1,hx107_2⟩:=at_T41 HR0.out x7_1 p107 q107;cases e107;replace hx107_0:=(HB.out.cell (World.block_lt_of_cell? w _ hx107_0)).trans hx107_0;replace hx107_1:=(HB.out.cell (World.block_lt_of_cell? w _ hx107_1)).trans hx107_1;replace hx107_2:=(HB.out.cell (World.block_lt_of_cell? w _ hx107_2)).trans hx107_2;replace p107:=eq_true p107;replace q107:=eq_true q107;(try go_wp2);have n0_:=am (Kd.R_drew HO_6.out);have n1_:=am (below_drew1 HB.out);clear HO_6;clear HB;have HO_6:=n0_;have HB:=n1_;clear n0_ n1_;have q36:(x8_2:Int)≤((x6_1.length:Int):Int):=of_decide_eq_true zq3;obtain ⟨i036,hi036,_,hsz36,_⟩:=info_parts info3;have hroom36:x6_1.length≤co34:=(Kd.R_reads' HO_6.out).2.1;have hC36:Kd.C (Kd.int .i64) _ Ao34 x6_1.length x6_1:=(Kd.R_reads' HO_6.out).2.2;have hcut36:=cut_to (P:=Tryz.prog) 72 3 .i64 Tryz.underlying72 hi036 Ao34 x6_1.length co34 x8_2 (of_decide_eq_true zq3) q36 hroom36;have hr36:=Kd.C_take (m:=(x8_2:Int).toNat) hC36 (by omega);have hy36:y117.length=(x8_2:Int).toNat:=(by rw [Ny117.out,List.length_take];omega);rw [← Ny117.out] at hr36;rw [← hy36] at hcut36;have HR120:=am hr36;have HC120:=am (show y117.length≤co34 from by omega);clear hr36 hC36 hroom36 hi036 hsz36;have KY36:=am hy36;clear hy36;have KL36:=am (show (x8_2:Int).toNat≤x6_1.length from by omega);replace q36:=eq_true q36;have q37:((ji30):Int)≤((x6_1.length:Int):Int):=of_decide_eq_true zq3;obtain ⟨i037,hi037,_,hsz37,_⟩:=info_parts info3;have hroom37:x6_1.length≤co34:=(Kd.R_reads' HO_6.out).2.1;have hC37:Kd.C (Kd.int .i64) _ Ao34 x6_1.length x6_1:=(Kd.R_reads' HO_6.out).2.2;have q037:(0:Int)≤((ji30):Int):=of_decide_eq_true zq3;have hcut37:=cut_from (P:=Tryz.prog) 72 3 .i64 Tryz.underlying72 hi037 1 hsz37 Ao34 x6_1.length co34 (ji30) q037 q37;have hr37:=Kd.C_drop (m:=((ji30):Int).toNat) (c:=co34) hC37 (by omega) hroom37;obtain ⟨A37,hA37⟩:∃ A1,A1=(if co34=((ji30):Int).toNat then Ao34 else (Ao34:Option Addr).map (·.add (((ji30):Int).toNat * 1))):=⟨_,rfl⟩;obtain ⟨c37,hc37⟩:∃ c1,c1=co34 - ((ji30):Int).toNat:=⟨_,rfl⟩;have hy37:y124.length=x6_1.length - ((ji30):Int).toNat:=(by rw [Ny124.out,List.length_drop] <;> omega);rw [show (x6_1).drop ((ji30):Int).toNat=y124 from Ny124.out.symm] at hr37;replace hr37:Kd.C (Kd.int .i64) _ A37 y124.length y124:=(by rw [hA37];exact hr37);rw [← hy37,← hA37,← hc37] at hcut37;have HR127:=am hr37;have HC127:=am (show y124.length≤c37 from by rw [hy37,hc37];exact Nat.sub_le_sub_right hroom37 _);clear hr37 hC37 hroom37 hi037 hsz37 hc37;have KY37:=am hy37;have KA37:=am hA37;clear hy37 hA37;have KL37:=am (show ((ji30):Int).toNat≤x6_1.length from by omega);replace q37:=eq_true q37;refine start_ (n:=11) (S:=fun w'=>True) (ds:=[]) #[false,false,false,false,false,false,false,false,false,false,false] zq18 rfl rfl trivial (fun hHeld=>?_);refine with_tabW spec_l07Up.tab15 spec_l07Up.bits15 (fun HT_ HW_=>?_);generalize wr.drew=w35 at HO_6 HB HR120 HR127 hHeld ⊢;refine pw_ 1 53 ?_;refine pw_ 2 54 ?_;refine pw_ 3 55 ?_;refine pw_ 5 57 ?_;refine pw_ 6 58 ?_;refine pw_ 7 59 ?_;refine pw_ 8 60 ?_;refine ow_ 0 52 (fun K hK=>?_);refine Kd.R_lit_step (Kd.int .i64) _ 3 ?hg (N:=52) ?hd (xs:=([]:List Int)) (inner:=[]) (ok:=fun _=>True) (okp:=fun _=>True) ?hr ?hp (fun _ hk=>hk) trivial (Below.refl _ _) (Nat.le_refl _) (by simp) ?_;(case hd=>rfl);(case hg=>rfl);(case hr=>exact zq9);(case hp=>exact (Reps.none _ _));intro v115 w38 ho39 hb hg_ hnew_;clear hg_ hnew_;(first|rw [← Ny114.out] at ho39|(simp only [Int.reduceToNat] at ho39;rw [← Ny114.out] at ho39));have n0_:=am (Kd.R_elder' zq10 (Kd.R_base ho39) hb);have n1_:=am (Kd.R_lower (Kd.R_new' ho39 (Kd.R_lt zq10)) (below_size zq0));have n2_:=am (Kd.C_below zq44 hb);have n3_:=am (Kd.C_below zq43 hb);have n4_:=am (below_step zq0 hb);clear HO_6;clear HR120;clear HR127;clear HB;have HO_6:=n0_;have HO116:=n1_;have HR120:=n2_;have HR127:=n3_;have HB:=n4_;clear n0_ n1_ n2_ n3_ n4_;clear hb ho39;refine hK.out _ _ trivial (fun hHeld=>?_);clear hK K;refine norm_ (a':=?_) ?_ ?_;rotate_left
                 ·show Act.put _ (some 52) _=_
                  simp only [Act.put,List.setIfInBounds_toArray,List.set_cons_zero,List.set_cons_succ,i64_w,i32_w];rfl
                 refine ow_ 4 56 (fun K hK=>?_);refine Kd.R_append_rows_step (Kd.int .i64) (w0:=w) w.heap.size (by rfl) (.tmp 52) (.tmp 55) 72 3 (.int .i64 0) 8 rfl Tryz.underlying72 info3 rfl (by decide) (by omega) v115 y114 y117 _ _ _ (fun k_=>some k_≠(.slice Ao34 x6_1.length co34:Value).ownBlock) (fun _=>False) rfl rfl ?aO ?aR (fun _ _ h=>h) (fun _ h=>h.elim) ?aF ?aB ?aS ?aL ?_;(case aR=>repeat (first|exact zq44|(with_reducible refine Kd.C_alloc ?_ _)|(with_reducible refine Kd.C_drewN ?_ _)|(with_reducible refine Kd.C_drew ?_)));(case aB=>exact zq0);(case aF=>exact (fun k_ hk=>Kd.fresh' (Kd.R_lt zq10) k_ hk));(case aO=>exact (by (with_reducible repeat (first|apply Kd.R_alloc|apply Kd.R_drewN|apply Kd.R_drew));exact Kd.R_mono HO116.out (fun _ hk=>hk.2)));(case aS=>exact (below_size zq0));(case aL=>exact zq41);intro v122 w40 ho hb hg hat;rw [← Ny121.out] at ho;have n0_:=am (Kd.R_after (ok:=(fun _=>True)) zq10 hg hat);have n1_:=am (hb);have n2_:=am ((show Kd.C (Kd.int .i64) w40 Ao34 y117.length y117 from by rw [Ny117.out];exact Kd.C_take (m:=(x8_2:Int).toNat) ((Kd.R_reads' (Kd.R_after (ok:=(fun _=>True)) zq10 hg hat)).2.2) KL36.out));have n3_:=am ((show Kd.C (Kd.int .i64) w40 A37 y124.length y124 from by rw [Ny124.out,KA37.out];exact Kd.C_drop (m:=((ji30):Int).toNat) (c:=co34) ((Kd.R_reads' (Kd.R_after (ok:=(fun _=>True)) zq10 hg hat)).2.2) KL37.out ((Kd.R_reads' (Kd.R_after (ok:=(fun _=>True)) zq10 hg hat)).2.1)));have n4_:=am (ho);clear HO_6;clear HB;clear HR120;clear HR127;clear HO116;have HO_6:=n0_;have HB:=n1_;have HR120:=n2_;have HR127:=n3_;have HO123:=n4_;clear n0_ n1_ n2_ n3_ n4_;clear ho hb hg hat;refine hK.out _ _ trivial (fun hHeld=>?_);clear hK K;refine norm_ (a':=?_) ?_ ?_;rotate_left
                 ·show Act.put _ (some 56) _=_
                  simp only [Act.put,List.setIfInBounds_toArray,List.set_cons_zero,List.set_cons_succ,i64_w,i32_w];rfl
                 refine ow_ 9 61 (fun K hK=>?_);refine Kd.R_append_rows_step (Kd.int .i64) (w0:=w) w.heap.size (by rfl) (.tmp 56) (.tmp 60) 72 3 (.int .i64 0) 8 rfl Tryz.underlying72 info3 rfl (by decide) (by omega) v122 y121 y124 _ _ _ (fun k_=>some k_≠(.slice Ao34 x6_1.length co34:Value).ownBlock) (fun _=>False) rfl rfl ?aO ?aR (fun _ _ h=>h) (fun _ h=>h.elim) ?aF ?aB ?aS ?aL ?_;(case aR=>repeat (first|exact zq43|(with_reducible refine Kd.C_alloc ?_ _)|(with_reducible refine Kd.C_drewN ?_ _)|(with_reducible refine Kd.C_drew ?_)));(case aB=>exact zq0);(case aF=>exact (fun k_ hk=>Kd.fresh' (Kd.R_lt zq10) k_ hk));(case aO=>exact zq25);(case aS=>exact (below_size zq0));(case aL=>have:=LMc33.out;omega);intro v129 w41 ho hb hg hat;rw [← Ny128.out] at ho;have n0_:=am (Kd.R_after (ok:=(fun _=>True)) zq10 hg hat);have n1_:=am (hb);have n2_:=am ((show Kd.C (Kd.int .i64) w41 Ao34 y117.length y117 from by rw [Ny117.out];exact Kd.C_take (m:=(x8_2:Int).toNat) ((Kd.R_reads' (Kd.R_after (ok:=(fun _=>True)) zq10 hg hat)).2.2) KL36.out));have n3_:=am ((show Kd.C (Kd.int .i64) w41 A37 y124.length y124 from by rw [Ny124.out,KA37.out];exact Kd.C_drop (m:=((ji30):Int).toNat) (c:=co34) ((Kd.R_reads' (Kd.R_after (ok:=(fun _=>True)) zq10 hg hat)).2.2) KL37.out ((Kd.R_reads' (Kd.R_after (ok:=(fun _=>True)) zq10 hg hat)).2.1)));have n4_:=am (ho);clear HO_6;clear HB;clear HR120;clear HR127;clear HO123;have HO_6:=n0_;have HB:=n1_;have HR120:=n2_;have HR127:=n3_;have HO130:=n4_;clear n0_ n1_ n2_ n3_ n4_;clear ho hb hg hat;refine hK.out _ _ trivial (fun hHeld=>?_);clear hK K;refine norm_ (a':=?_) ?_ ?_;rotate_left
                 ·show Act.put _ (some 61) _=_
                  simp only [Act.put,List.setIfInBounds_toArray,List.set_cons_zero,List.set_cons_succ,i64_w,i32_w];rfl
                 refine pw_ 10 6 ?_;refine done_ (done_of HT_.out zq18) ?_;(try go_wp2)
                 go_roundg k2
                 case measure=>have:=HK1.out;have:=HK2.out;omega
                 case rel=>exact ⟨(y128),(wrap64 (x7_1 + 1)),zq2,H',⟨by have:=HK1.out;have:=HK2.out;omega⟩,⟨by (with_reducible repeat (first|apply Kd.R_alloc|apply Kd.R_drewN|apply Kd.R_drew));exact Kd.R_mono HO130.out (fun _ hk=>trivial)⟩,⟨by repeat (first|(with_reducible first|exact HB.out|apply below_alloc|apply pw_below_drewN|apply below_drew1)|exact HB.out)⟩⟩
                ·rw [if_neg c33] at H;exact absurd H (by simp)
               ·rw [if_neg c32] at H;exact absurd H (by simp)
              ·rw [if_neg c31] at H;exact absurd H (by simp)
             ·rw [if_neg c29] at H;exact absurd H (by simp)
            ·rw [if_neg c28] at H;exact absurd H (by simp)
           ·rw [if_neg c27] at H;exact absurd H (by simp)
        ·rw [if_neg c18] at H;exact absurd H (by simp)
       ·rw [if_neg c17] at H;exact absurd H (by simp)
   ·rw [if_neg c5] at H;have c5b0:=decide_eq_false c5;clear c5;simp only [Option.some.injEq,Prod.mk.injEq] at H;obtain ⟨rfl,rfl⟩:=H
    go_wp2
    go_ret2
    exact ⟨_,by first|rfl|(simp [errW_none,errW_some,IntKind.wrap_i64,wrap64];done)|(simp [errW_none,errW_some] <;> rfl)|(simp [*,errW_none,errW_some] <;> rfl),by (with_reducible repeat (first|apply Kd.R_alloc|apply Kd.R_drewN|apply Kd.R_drew));exact HO_6.out,by repeat (first|(with_reducible first|exact HB.out|apply below_alloc|apply pw_below_drewN|apply below_drew1)|exact HB.out)⟩
def spec_l07Ok.l0:Nat→List (S41)→Int→Int→Option (Bool)
 | 0,_,_,_=>none
 | k + 1,x0,x3,x4=>if x4 < (x0.length:Int) then (if 0≤x4 then ((spec_l00In.f ((rd_T41 x0 x4).f0) x3 100000).bind fun t106=>(if t106=true then ((spec_l00In.f ((rd_T41 x0 x4).f1) 0 9999).bind fun t108=>(if t108=true then (spec_l07Ok.l0 k x0 ((rd_T41 x0 x4).f0) (wrap64 (x4 + 1))) else (some false))) else (some false))) else (none)) else ((spec_l07Up.f k x0 (x0.length:Int)).bind fun bt101=>(some bt101.2))
def spec_l07Ok.f (k:Nat) (l0:List (S41)):Option (Bool):=if (l0.length:Int) > 60 then (some false) else (spec_l07Ok.l0 k l0 0 0)
set_option maxHeartbeats 8000000 in
set_option maxRecDepth 100000 in
theorem spec_l07Ok.calls (k:Nat) (A0:Option Addr) (c0:Nat) (l0:List (S41)) (r:Bool) (w:World) (hr0:Kd.C k41 w A0 l0.length l0) (hc0:l0.length≤c0) (h:spec_l07Ok.f k l0=some r) :
  Calls Tryz.prog 34 #[.slice A0 l0.length c0] w fun e w'=>e=.returned (.bool r)∧Below w.heap.size w w':=by
 have HR0:=am hr0;have HC0:=am hc0;clear hr0 hc0;have HB:=am (Below.refl w.heap.size w);have H:(if (l0.length:Int) > 60 then (some false) else (spec_l07Ok.l0 k l0 0 0))=some r:=h;clear h
 by_cases c2:(l0.length:Int) > 60
 ·rw [if_pos c2] at H;have c2b0:decide (60 < (l0.length:Int))=true:=decide_eq_true c2;have c2b1:decide (60 < l0.length)=true:=decide_eq_true (by omega);clear c2;obtain rfl:=Option.some.inj H
  go_enter Tryz.func34,Tryz.ntmps34
  go_wp2
  go_ret
  exact ⟨by first|rfl|(simp [errW_none,errW_some,IntKind.wrap_i64,wrap64];done)|(simp [errW_none,errW_some] <;> rfl)|(simp [*,errW_none,errW_some] <;> rfl),by repeat (first|(with_reducible first|exact HB.out|apply below_alloc|apply pw_below_drewN|apply below_drew1)|exact HB.out)⟩
 ·rw [if_neg c2] at H;have c2b0:decide (60 < (l0.length:Int))=false:=decide_eq_false c2;have c2b1:decide (60 < l0.length)=false:=decide_eq_false (by omega);clear c2;have H':=am H;clear H
  go_enter Tryz.func34,Tryz.ntmps34
  go_wp2
  go_loopg [3,4] k (fun kq v3 v4 w'=>∃ (x3_1:Int) (x4_1:Int),v3=.int .i64 x3_1∧v4=.int .i64 x4_1∧Aside0 (spec_l07Ok.l0 kq l0 x3_1 x4_1=some r)∧Aside0 (kq≤k)∧Aside0 (Below w.heap.size w w'))
  case atStart=>exact ⟨(0),(0),zq2,zq2,H',⟨Nat.le_refl _⟩,⟨by repeat (first|(with_reducible first|exact HB.out|apply below_alloc|apply pw_below_drewN|apply below_drew1)|exact HB.out)⟩⟩
  case round =>
   clear H';(try clear c2);(try clear c2b0);(try clear c2b1);(try clear p2);obtain ⟨x3_1,x4_1,rfl,rfl,HA,HK1,HB⟩:=hrel
   cases gk with
   | zero=>exact absurd HA.out (by simp [spec_l07Ok.l0])
   | succ k1 =>
    have H:=HA.out;clear HA;simp only [spec_l07Ok.l0] at H
    by_cases c3:x4_1 < (l0.length:Int)
    ·rw [if_pos c3] at H;have c3b0:=decide_eq_true c3;clear c3
     by_cases c4:0≤x4_1
     ·rw [if_pos c4] at H;have c4b0:=decide_eq_true c4;clear c4;replace H:=Option.bind_eq_some_iff.mp H;obtain ⟨t106,A50,H⟩:=H;replace H:(if t106=true then ((spec_l00In.f ((rd_T41 l0 x4_1).f1) 0 9999).bind fun t108=>(if t108=true then (spec_l07Ok.l0 k1 l0 ((rd_T41 l0 x4_1).f0) (wrap64 (x4_1 + 1))) else (some false))) else (some false))=some r:=H;have A5:=am A50;clear A50
      by_cases c6:t106=true
      ·subst c6
       have H1:((spec_l00In.f ((rd_T41 l0 x4_1).f1) 0 9999).bind fun t108=>(if t108=true then (spec_l07Ok.l0 k1 l0 ((rd_T41 l0 x4_1).f0) (wrap64 (x4_1 + 1))) else (some false)))=some r:=by rw [if_pos rfl] at H;exact H
       clear H;have H:=H1;clear H1;replace H:=Option.bind_eq_some_iff.mp H;obtain ⟨t108,A70,H⟩:=H;replace H:(if t108=true then (spec_l07Ok.l0 k1 l0 ((rd_T41 l0 x4_1).f0) (wrap64 (x4_1 + 1))) else (some false))=some r:=H;have A7:=am A70;clear A70
       by_cases c8:t108=true
       ·subst c8
        have H1:(spec_l07Ok.l0 k1 l0 ((rd_T41 l0 x4_1).f0) (wrap64 (x4_1 + 1)))=some r:=by rw [if_pos rfl] at H;exact H
        clear H;have H:=H1;clear H1;have H':=am H;clear H;have p105:0≤(x4_1:Int):=of_decide_eq_true zq3;have q105:x4_1 < (l0.length:Int):=of_decide_eq_true zq3;obtain ⟨ad105,e105,hx105_0,hx105_1,hx105_2⟩:=at_T41 HR0.out x4_1 p105 q105;cases e105;replace hx105_0:=(HB.out.cell (World.block_lt_of_cell? w _ hx105_0)).trans hx105_0;replace hx105_1:=(HB.out.cell (World.block_lt_of_cell? w _ hx105_1)).trans hx105_1;replace hx105_2:=(HB.out.cell (World.block_lt_of_cell? w _ hx105_2)).trans hx105_2;replace p105:=eq_true p105;replace q105:=eq_true q105
        go_wp2_with (first|((with_reducible refine gate_callee (f:=35) rfl ?_);refine goesL_ (some 22) rfl rfl Tryz.func35 zq18 rfl #[.int .i64 ((rd_T41 l0 x4_1).f0),.int .i64 x3_1,.int .i64 100000] rfl zq1 ?_;(with_reducible refine (spec_l00In.calls ((rd_T41 l0 x4_1).f0) x3_1 100000 true _ A5.out).mono ?_);rintro e w' ⟨rfl,⟨nd,rfl⟩⟩;refine ⟨_,rfl,?_⟩;have p107:0≤(x4_1:Int):=of_decide_eq_true zq3;have q107:x4_1 < (l0.length:Int):=of_decide_eq_true zq3;obtain ⟨ad107,e107,hx107_0,hx107_1,hx107_2⟩:=at_T41 HR0.out x4_1 p107 q107;obtain rfl:ad105=ad107:=(by injection e107);replace hx107_0:=(HB.out.cell (World.block_lt_of_cell? w _ hx107_0)).trans hx107_0;replace hx107_1:=(HB.out.cell (World.block_lt_of_cell? w _ hx107_1)).trans hx107_1;replace hx107_2:=(HB.out.cell (World.block_lt_of_cell? w _ hx107_2)).trans hx107_2;replace p107:=eq_true p107;replace q107:=eq_true q107)|(go_at_call 35;(with_reducible refine (spec_l00In.calls ((rd_T41 l0 x4_1).f1) 0 9999 true _ A7.out).mono ?_);rintro e w' ⟨rfl,⟨nd,rfl⟩⟩;have p109:0≤(x4_1:Int):=of_decide_eq_true zq3;have q109:x4_1 < (l0.length:Int):=of_decide_eq_true zq3;obtain ⟨ad109,e109,hx109_0,hx109_1,hx109_2⟩:=at_T41 HR0.out x4_1 p109 q109;obtain rfl:ad105=ad109:=(by injection e109);replace hx109_0:=(HB.out.cell (World.block_lt_of_cell? w _ hx109_0)).trans hx109_0;replace hx109_1:=(HB.out.cell (World.block_lt_of_cell? w _ hx109_1)).trans hx109_1;replace hx109_2:=(HB.out.cell (World.block_lt_of_cell? w _ hx109_2)).trans hx109_2;replace p109:=eq_true p109;replace q109:=eq_true q109))
        go_roundg k1
        case measure=>have:=HK1.out;omega
        case rel=>exact ⟨((rd_T41 l0 x4_1).f0),(wrap64 (x4_1 + 1)),zq2,zq2,H',⟨by have:=HK1.out;omega⟩,⟨by repeat (first|(with_reducible first|exact HB.out|apply below_alloc|apply pw_below_drewN|apply below_drew1)|exact HB.out)⟩⟩
       ·replace c8:=Bool.eq_false_iff.mpr c8;subst c8
        have H1:(some false)=some r:=by rw [if_neg (show ¬ (false=true) by decide)] at H;exact H
        clear H;have H:=H1;clear H1;obtain rfl:=Option.some.inj H;have p105:0≤(x4_1:Int):=of_decide_eq_true zq3;have q105:x4_1 < (l0.length:Int):=of_decide_eq_true zq3;obtain ⟨ad105,e105,hx105_0,hx105_1,hx105_2⟩:=at_T41 HR0.out x4_1 p105 q105;cases e105;replace hx105_0:=(HB.out.cell (World.block_lt_of_cell? w _ hx105_0)).trans hx105_0;replace hx105_1:=(HB.out.cell (World.block_lt_of_cell? w _ hx105_1)).trans hx105_1;replace hx105_2:=(HB.out.cell (World.block_lt_of_cell? w _ hx105_2)).trans hx105_2;replace p105:=eq_true p105;replace q105:=eq_true q105
        go_wp2_with (first|((with_reducible refine gate_callee (f:=35) rfl ?_);refine goesL_ (some 22) rfl rfl Tryz.func35 zq18 rfl #[.int .i64 ((rd_T41 l0 x4_1).f0),.int .i64 x3_1,.int .i64 100000] rfl zq1 ?_;(with_reducible refine (spec_l00In.calls ((rd_T41 l0 x4_1).f0) x3_1 100000 true _ A5.out).mono ?_);rintro e w' ⟨rfl,⟨nd,rfl⟩⟩;refine ⟨_,rfl,?_⟩;have p107:0≤(x4_1:Int):=of_decide_eq_true zq3;have q107:x4_1 < (l0.length:Int):=of_decide_eq_true zq3;obtain ⟨ad107,e107,hx107_0,hx107_1,hx107_2⟩:=at_T41 HR0.out x4_1 p107 q107;obtain rfl:ad105=ad107:=(by injection e107);replace hx107_0:=(HB.out.cell (World.block_lt_of_cell? w _ hx107_0)).trans hx107_0;replace hx107_1:=(HB.out.cell (World.block_lt_of_cell? w _ hx107_1)).trans hx107_1;replace hx107_2:=(HB.out.cell (World.block_lt_of_cell? w _ hx107_2)).trans hx107_2;replace p107:=eq_true p107;replace q107:=eq_true q107)|(go_at_call 35;(with_reducible refine (spec_l00In.calls ((rd_T41 l0 x4_1).f1) 0 9999 false _ A7.out).mono ?_);rintro e w' ⟨rfl,⟨nd,rfl⟩⟩))
        go_ret
        exact ⟨by first|rfl|(simp [errW_none,errW_some,IntKind.wrap_i64,wrap64];done)|(simp [errW_none,errW_some] <;> rfl)|(simp [*,errW_none,errW_some] <;> rfl),by repeat (first|(with_reducible first|exact HB.out|apply below_alloc|apply pw_below_drewN|apply below_drew1)|exact HB.out)⟩
      ·replace c6:=Bool.eq_false_iff.mpr c6;subst c6
       have H1:(some false)=some r:=by rw [if_neg (show ¬ (false=true) by decide)] at H;exact H
       clear H;have H:=H1;clear H1;obtain rfl:=Option.some.inj H;have p105:0≤(x4_1:Int):=of_decide_eq_true zq3;have q105:x4_1 < (l0.length:Int):=of_decide_eq_true zq3;obtain ⟨ad105,e105,hx105_0,hx105_1,hx105_2⟩:=at_T41 HR0.out x4_1 p105 q105;cases e105;replace hx105_0:=(HB.out.cell (World.block_lt_of_cell? w _ hx105_0)).trans hx105_0;replace hx105_1:=(HB.out.cell (World.block_lt_of_cell? w _ hx105_1)).trans hx105_1;replace hx105_2:=(HB.out.cell (World.block_lt_of_cell? w _ hx105_2)).trans hx105_2;replace p105:=eq_true p105;replace q105:=eq_true q105
       go_wp2_with (first|((with_reducible refine gate_callee (f:=35) rfl ?_);refine goesL_ (some 22) rfl rfl Tryz.func35 zq18 rfl #[.int .i64 ((rd_T41 l0 x4_1).f0),.int .i64 x3_1,.int .i64 100000] rfl zq1 ?_;(with_reducible refine (spec_l00In.calls ((rd_T41 l0 x4_1).f0) x3_1 100000 false _ A5.out).mono ?_);rintro e w' ⟨rfl,⟨nd,rfl⟩⟩;refine ⟨_,rfl,?_⟩))
       go_ret
       exact ⟨by first|rfl|(simp [errW_none,errW_some,IntKind.wrap_i64,wrap64];done)|(simp [errW_none,errW_some] <;> rfl)|(simp [*,errW_none,errW_some] <;> rfl),by repeat (first|(with_reducible first|exact HB.out|apply below_alloc|apply pw_below_drewN|apply below_drew1)|exact HB.out)⟩
     ·rw [if_neg c4] at H;exact absurd H (by simp)
    ·rw [if_neg c3] at H;have c3b0:=decide_eq_false c3;clear c3;replace H:=Option.bind_eq_some_iff.mp H;obtain ⟨⟨t101,t102⟩,A90,H⟩:=H;replace H:(some t102)=some r:=H;have A9:=am A90;clear A90;obtain rfl:=Option.some.inj H
     go_wp2_with (first|((with_reducible refine gate_callee (f:=40) rfl ?_);refine goesL_ (some 42) rfl rfl Tryz.func40 zq18 rfl #[.slice A0 l0.length c0,.int .i64 (l0.length:Int)] rfl zq1 ?_;(with_reducible refine (spec_l07Up.calls k1 _ _ l0 (l0.length:Int) t101 t102 _ ?side1 ?side2 A9.out).mono ?_);(case side1=>exact zq4);(case side2=>exact HC0.out);rintro e w10 ⟨v103,rfl,ho0,hb⟩;refine ⟨_,rfl,?_⟩;have n0_:=am (Kd.R_lower ho0 (below_size zq0));have n1_:=am (below_step zq0 hb);clear HB;have HO104:=n0_;have HB:=n1_;clear n0_ n1_;(try clear hb);(try clear hb2);(try clear hk);(try clear hi);(try clear ho0)))
     go_ret
     exact ⟨by first|rfl|(simp [errW_none,errW_some,IntKind.wrap_i64,wrap64];done)|(simp [errW_none,errW_some] <;> rfl)|(simp [*,errW_none,errW_some] <;> rfl),by repeat (first|(with_reducible first|exact HB.out|apply below_alloc|apply pw_below_drewN|apply below_drew1)|exact HB.out)⟩
end Go.Proofs.YtmcfbnglocojkabGreatDoor.G
end
