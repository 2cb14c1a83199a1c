/- The law's functions, their contracts, and the plain lemmas: texts of this claim, laid together. -/
import Derived.StillTailTactics
import Derived.Test.YtgfknljhogfeaaaMFnSights0
import Derived.Test.YtgfknljhogfeaaaMFnSights1
section
namespace Go.Proofs.Ytgfknljhogfeaaa.G
open Go.RowKit Go.Proofs.YtgfknljhogfeaaaW.PrintWords Go.Proofs.YtgfknljhogfeaaaW.PrintLast Go.Proofs.YtgfknljhogfeaaaW.PrintMore
attribute [local go_sem] max2_int min2_int max_two min_two max_three min_three max_four min_four
set_option linter.unusedVariables false
set_option linter.unusedSimpArgs false
theorem impl_NearestWords.apart {W:World} {b:Nat} {s12 v:Value} {x12:List (List S61)} {t6:List S61} {p q:Nat→Prop} (HR:Kd.R k61 61 W b q v t6) (HO:Kd.R (Kd.slice 61 k61) 27 W b p s12 x12):∀ k,some k=v.ownBlock→some k≠s12.ownBlock:=fun k hk h2=>by
 obtain ⟨c1,h1⟩:=Kd.R_typed HR k hk.symm;obtain ⟨c2,h3⟩:=Kd.R_typed HO k h2.symm;rw [h1] at h3
 injection h3 with h3
 injection h3 with _ h3 _
 exact absurd h3 (by decide)
def impl_NearestWords.see (k:Nat) (s0:List S68) (s1:List (List Int)) (x:List Int):List S61:=(impl_Code_sights.f k s0 s1 x).getD []
def impl_NearestWords.f (k:Nat) (s0:List S68) (s1:List (List Int)):Option (Int × Int × Int × Int):=(impl_ValidCode.f s0 s1).bind fun t=>if t=true then (if s1.length≤1000000∧s1.all (fun x=>(impl_Code_sights.f k s0 s1 x).isSome)=true then (impl_nearest__impl_NearestWords_1.f k (s1.length:Int) (s1.map (impl_NearestWords.see k s0 s1))).bind fun q=>some (if q.2.2.2=true then (q.1,q.2.1,q.2.2.1,0) else (0,0,0,6)) else none) else some (0,0,0,1)
set_option maxHeartbeats 8000000 in
set_option maxRecDepth 100000 in
theorem impl_NearestWords.calls (k:Nat) (A0_0:Option Addr) (c0_0:Nat) (l0_0:List S68) (A0_1:Option Addr) (c0_1:Nat) (l0_1:List (List Int)) (r1 r2 r3 r4:Int) (w:World) (hr0_0:Kd.C k68 w A0_0 l0_0.length l0_0) (hc0_0:l0_0.length≤c0_0) (hr0_1:Kd.C (Kd.slice 5 (Kd.int .u8)) w A0_1 l0_1.length l0_1) (hc0_1:l0_1.length≤c0_1) (h:impl_NearestWords.f k l0_0 l0_1=some (r1,r2,r3,r4)) :
  Calls Try.prog 18 #[.agg #[.slice A0_0 l0_0.length c0_0,.slice A0_1 l0_1.length c0_1]] w fun e w'=>e=.returned (.tuple #[.int .i64 r1,.int .i64 r2,.int .i64 r3,.int .i64 r4])∧Below w.heap.size w w':=by
 have hu33:=Try.underlying33;have HB:=am (Below.refl w.heap.size w)
 unfold impl_NearestWords.f at h
 replace h:=Option.bind_eq_some_iff.mp h;obtain ⟨t,A1,h⟩:=h;have HVC:Aside0 (∀ W:World,Below w.heap.size w W→Calls Try.prog 30 #[.agg #[.slice A0_0 l0_0.length c0_0,.slice A0_1 l0_1.length c0_1]] W fun e w'=>e=.returned (.bool t)∧Below W.heap.size W w'):=⟨fun W hW=>impl_ValidCode.calls _ _ l0_0 _ _ l0_1 t W (Kd.C_below hr0_0 hW) hc0_0 (Kd.C_below hr0_1 hW) hc0_1 A1⟩;clear A1
 cases t with
 | false =>
  rw [if_neg (by decide)] at h;simp only [Option.some.injEq,Prod.mk.injEq] at h;obtain ⟨rfl,rfl,rfl,rfl⟩:=h;clear hr0_0 hc0_0 hr0_1 hc0_1;generalize l0_0.length=n0 at *;generalize l0_1.length=n1 at *
  go_enter Try.func18,Try.ntmps18
  go_wp2_with (first|((with_reducible refine gate_dst (N:=1) rfl ?_);refine box_event ?hg (N:=1) ?hd (cs:=#[.slice A0_0 n0 c0_0,.slice A0_1 n1 c0_1]) (t:=33) ?hr ?_;(case hd=>rfl);(case hg=>rfl);(case hr=>exact zq15);intro gc hg_ w1 hbox hb;have BKc1:=am hbox;have GEc:=am (show w.heap.size≤gc by rw [hg_];exact below_size HB.out);have HB1:=am (below_step HB.out hb);have hq0:w1.cell? ⟨gc,0,none⟩=some (.slice A0_0 n0 c0_0):=(blk_cell BKc1.out 0).trans rfl;have hq1:w1.cell? ⟨gc,1,none⟩=some (.slice A0_1 n1 c0_1):=(blk_cell BKc1.out 1).trans rfl;clear hb hbox hg_)|(go_at_call 30;refine (HVC.out _ HB1.out).mono ?_;rintro e w2 ⟨rfl,hb2⟩;have HB2:=am (below_step HB1.out hb2);have BKc2:=am (blk_below BKc1.out hb2);clear hb2))
  refine bodyPost_ret (results_list (rs:=[.tmp 2,.tmp 3,.tmp 4,.tmp 5]) rfl (by simp) (.tmp (.tmp (.tmp (.tmp .nil))))) rfl ?_;exact ⟨by first|rfl|simp,HB2.out⟩
 | true =>
  rw [if_pos rfl] at h
  by_cases hc:l0_1.length≤1000000∧l0_1.all (fun x=>(impl_Code_sights.f k l0_0 l0_1 x).isSome)=true
  ·rw [if_pos hc] at h;obtain ⟨hlm,hall⟩:=hc;replace h:=Option.bind_eq_some_iff.mp h;obtain ⟨⟨q1,q2,q3,q4⟩,A2,h⟩:=h;have h:(if q4=true then (q1,q2,q3,(0:Int)) else (0,0,0,6))=(r1,r2,r3,r4):=Option.some.inj h
   have HNE:Aside0 (∀ (W:World) (A:Option Addr) (c b:Nat),Kd.C (Kd.slice 61 k61) W A l0_1.length (l0_1.map (impl_NearestWords.see k l0_0 l0_1))→l0_1.length≤c→W.heap[b]?=some (.cells #[.slice A l0_1.length c] 87 (0,0))→Calls Try.prog 54 #[.int .i64 l0_1.length,.func (.func 55) #[] #[.pointer (some ⟨b,0,none⟩)]] W fun e w'=>e=.returned (.tuple #[.int .i64 q1,.int .i64 q2,.int .i64 q3,.bool q4])∧Drawn0 W w'):=⟨fun W A c b h1 h2 h3=>by
    have hlm:(l0_1.map (impl_NearestWords.see k l0_0 l0_1)).length=l0_1.length:=List.length_map ..;have h_:=impl_nearest__impl_NearestWords_1.calls k (l0_1.length:Int) A c (l0_1.map (impl_NearestWords.see k l0_0 l0_1)) b q1 q2 q3 q4 W (by rw [hlm];exact h1) (by rw [hlm];exact h2) (by rw [hlm];exact h3) A2
    exact h_⟩
   have HR1:=am hr0_1
   have HSA:Aside0 (∀ (x:List Int) (Aw:Option Addr) (cw:Nat) (W:World),x∈l0_1→Below w.heap.size w W→Kd.C (Kd.int .u8) w Aw x.length x→x.length≤cw→Calls Try.prog 47 #[.agg #[.slice A0_0 l0_0.length c0_0,.slice A0_1 l0_1.length c0_1],.slice Aw x.length cw] W fun e w'=>∃ v0_:Value,e=.returned (v0_)∧Kd.R k61 61 w' W.heap.size (fun _=>True) v0_ (impl_NearestWords.see k l0_0 l0_1 x)∧Below W.heap.size W w'):=⟨fun x Aw cw W hx hW h1 h2=>by
    have hs:=List.all_eq_true.1 hall x hx;obtain ⟨t,ht⟩:=Option.isSome_iff_exists.1 hs
    have e:impl_NearestWords.see k l0_0 l0_1 x=t:=by unfold impl_NearestWords.see;rw [ht];rfl
    rw [e]
    exact impl_Code_sights.calls k _ _ l0_0 _ _ l0_1 _ _ x t W (Kd.C_below hr0_0 hW) hc0_0 (Kd.C_below hr0_1 hW) hc0_1 (Kd.C_below h1 hW) h2 ht⟩
   clear A2 hall hr0_0 hc0_0 hr0_1 hc0_1;generalize hn0:l0_0.length=n0 at *;clear hn0;generalize hn1:l0_1.length=n1 at *;have Hn1:=am hn1;clear hn1;have HH:=am h;clear h
   go_enter Try.func18,Try.ntmps18
   go_wp2_with (first|((with_reducible refine gate_dst (N:=1) rfl ?_);refine box_event ?hg (N:=1) ?hd (cs:=#[.slice A0_0 n0 c0_0,.slice A0_1 n1 c0_1]) (t:=33) ?hr ?_;(case hd=>rfl);(case hg=>rfl);(case hr=>exact zq15);intro gc hg_ w1 hbox hb;have BKc1:=am hbox;have GEc:=am (show w.heap.size≤gc by rw [hg_];exact below_size HB.out);have HB1:=am (below_step HB.out hb);have hq0:w1.cell? ⟨gc,0,none⟩=some (.slice A0_0 n0 c0_0):=(blk_cell BKc1.out 0).trans rfl;have hq1:w1.cell? ⟨gc,1,none⟩=some (.slice A0_1 n1 c0_1):=(blk_cell BKc1.out 1).trans rfl;clear hb hbox hg_)|(go_at_call 30;refine (HVC.out _ HB1.out).mono ?_;rintro e w2 ⟨rfl,hb2⟩;have HB2:=am (below_step HB1.out hb2);have BKc2:=am (blk_below BKc1.out hb2);clear hb2)|((with_reducible refine gate_dst (N:=16) rfl ?_);refine Kd.R_lit (Kd.slice 61 k61) w.heap.size 27 ?hg (N:=16) ?hd (xs:=([]:List (List S61))) (inner:=[]) (ok:=fun _=>True) (okp:=fun _=>True) ?hr ?hp (fun _ hk=>hk) trivial HB2.out (below_size HB2.out) (by simp) ?_;(case hd=>rfl);(case hg=>rfl);(case hr=>exact zq15);(case hp=>exact (Reps.none _ _));intro vl w3 ho3 hb3 hg_ hnew_;have BKc3:=am (blk_grown (by exact BKc2.out) hg_ (by simp));clear hg_ hnew_;obtain ⟨Al,cl,el⟩:=Kd.R_slice ho3;rw [el] at ho3;have HO3:=am (show Kd.R (Kd.slice 61 k61) 27 w3 w.heap.size (fun _=>True) (.slice Al 0 cl) ([]:List (List S61)) from ho3);have HB3:=am hb3;simp only [List.length_nil] at el;subst el;clear ho3 hb3)|((with_reducible refine gate_dst (N:=6) rfl ?_);refine box_event ?hg (N:=6) ?hd (cs:=#[.slice none 0 0]) (t:=87) ?hr ?_;(case hd=>rfl);(case hg=>rfl);(case hr=>exact zq15);intro gl hg_ w4 hbox hb;have BKl4:=am hbox;have GEl:=am (show w.heap.size≤gl by rw [hg_];exact below_size HB3.out);have HB4:=am (below_step HB3.out hb);have BKc4:=am (blk_below BKc3.out hb);have HO4:=am (Kd.R_below HO3.out hb);have hq2:w4.cell? ⟨gl,0,none⟩=some (.slice none 0 0):=(blk_cell BKl4.out 0).trans rfl;have hq3:=blk_frozen BKl4.out 0;have hq4:w4.cell? ⟨gc,0,none⟩=some (.slice A0_0 n0 c0_0):=(blk_cell BKc4.out 0).trans rfl;have hq5:w4.cell? ⟨gc,1,none⟩=some (.slice A0_1 n1 c0_1):=(blk_cell BKc4.out 1).trans rfl;have hne5:gc≠gl:=blk_ne BKc4.out BKl4.out (by decide);have hne6:gl≠gc:=hne5.symm;clear hb hbox hg_))
   have BKl5:=am (show (w4.setCell ⟨gl,0,none⟩ (.slice Al 0 cl)).heap[gl]?=some (.cells #[.slice Al 0 cl] 87 (0,0)) from blk_put (by exact BKl4.out) 0 (.slice Al 0 cl) rfl);have BKc5:=am (blk_far (by exact BKc4.out) (p:=⟨gl,0,none⟩) hne5 (.slice Al 0 cl));have HO5:=am (Kd.R_set HO4.out (by exact BKl4.out) (by decide) 0 (.slice Al 0 cl));have HB5:=am (below_set (j:=0) (v:=.slice Al 0 cl) HB4.out GEl.out);have HNG:=am hne5;clear hne5 hne6 hq0 hq1 hq2 hq3 hq4 hq5 BKl4 BKc4 HO4 HB4 HO3 HB3 BKc3 HB2 BKc2 HB1 BKc1 HB
   go_loopg [8,20] (n1 + 1) (fun gg s8 s20 wr=>∃ (j:Nat) (v:Value),j≤n1∧n1 - j≤gg∧s20=.int .i64 j∧Aside0 (Kd.R (Kd.slice 61 k61) 27 wr w.heap.size (fun _=>True) v ((l0_1.take j).map (impl_NearestWords.see k l0_0 l0_1)))∧Aside0 (wr.heap[gl]?=some (.cells #[v] 87 (0,0)))∧Aside0 (wr.heap[gc]?=some (.cells #[.slice A0_0 n0 c0_0,.slice A0_1 n1 c0_1] 33 (0,0)))∧Aside0 (Below w.heap.size w wr))
   case atStart=>exact ⟨0,.slice Al 0 cl,by omega,by omega,rfl,HO5,BKl5,BKc5,HB5⟩
   case round =>
    clear BKl5 BKc5 HO5 HB5;obtain ⟨j,v,hj,hg2,rfl,HO,BKl,BKc,HB⟩:=hrel;obtain ⟨Ao,co,eo⟩:=Kd.R_slice HO.out;subst eo
    by_cases hlj:j < n1
    ·have hljz:(j:Int) < (n1:Int):=by omega
     have hljd:decide ((j:Int) < (n1:Int))=true:=decide_eq_true hljz;have HJ:=am (show j < l0_1.length by rw [Hn1.out];exact hlj);obtain ⟨ad,Aw,cw,e0,hx0,hlc,hC1⟩:=at_L2 HR1.out (j:Int) (by omega) (by omega);cases e0;simp only [Int.toNat_natCast] at hx0;have HD:=am (show rd_L2 l0_1 (j:Int)=l0_1[j]'HJ.out by unfold rd_L2;rw [Int.toNat_natCast,List.getD_eq_getElem?_getD,List.getElem?_eq_getElem HJ.out];rfl);have y2:=(HB.out.cell (World.block_lt_of_cell? w _ hx0)).trans hx0;have HSee:=am (fun (W:World) (hW:Below w.heap.size w W)=>HSA.out (rd_L2 l0_1 (j:Int)) Aw cw W (by rw [HD.out];exact List.getElem_mem _) hW hC1 hlc);have HSC:=am (show (l0_1.take (j + 1)).map (impl_NearestWords.see k l0_0 l0_1)=(l0_1.take j).map (impl_NearestWords.see k l0_0 l0_1) ++ [impl_NearestWords.see k l0_0 l0_1 (rd_L2 l0_1 (j:Int))] by rw [List.take_succ_eq_append_getElem HJ.out,List.map_append,HD.out];rfl);have HLM:=am (show ((l0_1.take j).map (impl_NearestWords.see k l0_0 l0_1)).length≤1000000 by rw [List.length_map,List.length_take];omega);clear hx0 hlc hC1 HD;generalize rd_L2 l0_1 (j:Int)=x at *;generalize impl_NearestWords.see k l0_0 l0_1 x=ts at *;generalize (l0_1.take j).map (impl_NearestWords.see k l0_0 l0_1)=out at *;generalize hnx:x.length=mx at *;clear hnx;generalize hno:out.length=no at *
     go_wp2
     refine start_ (n:=7) (S:=fun w'=>w'.cell? ⟨gl,0,none⟩=some (.slice Ao no co)∧w'.cell? ⟨gc,0,none⟩=some (.slice A0_0 n0 c0_0)∧w'.cell? ⟨gc,1,none⟩=some (.slice (some ad) n1 c0_1)) (ds:=[6]) #[false,false,false,false,false,false,false] zq16 rfl rfl ⟨(blk_cell (blk_drew BKl.out) 0).trans rfl,(blk_cell (blk_drew BKc.out) 0).trans rfl,(blk_cell (blk_drew BKc.out) 1).trans rfl⟩ (fun hHeld=>?_);have BKl1:=am (blk_drew BKl.out);have BKc1:=am (blk_drew BKc.out);have HO1:=am (Kd.R_drew HO.out);have HB1:=am (below_drew1 HB.out);clear BKl BKc HO HB y2;generalize wr.drew=wd at BKl1 BKc1 HO1 HB1 hHeld ⊢;have BKl:=BKl1;have BKc:=BKc1;have HO:=HO1;have HB:=HB1;clear BKl1 BKc1 HO1 HB1;refine pure_ (i:=2) (N:=some 26) (v:=?_) (a':=?_) #[false,false,true,false,false,false,false] rfl rfl zq16 (fun _ _ _ h=>h) (Or.inl ⟨by rfl,?_⟩) ?_ ?_;rotate_left
     ·intro w';go_simp;with_reducible rfl
     rotate_left
     ·simp only [Act.put,List.setIfInBounds_toArray,List.set_cons_zero,List.set_cons_succ,i64_w,i32_w];rfl
     refine take_ (i:=0) (N:=some 24) (v:=?_) (a':=?_) #[true,false,true,false,false,false,false] rfl rfl zq16 (fun _ _ _ h=>h) (Or.inl ⟨by rfl,?_⟩) hHeld ?_ ?_;rotate_left
     ·rintro w' ⟨s0,s1,s2⟩
      go_simp;with_reducible rfl
     rotate_left
     ·simp only [Act.put,List.setIfInBounds_toArray,List.set_cons_zero,List.set_cons_succ,i64_w,i32_w];rfl
     refine take_ (i:=1) (N:=some 25) (v:=?_) (a':=?_) #[true,true,true,false,false,false,false] rfl rfl zq16 (fun _ _ _ h=>h) (Or.inl ⟨by rfl,?_⟩) hHeld ?_ ?_;rotate_left
     ·rintro w' ⟨s0,s1,s2⟩
      go_simp;with_reducible rfl
     rotate_left
     ·simp only [Act.put,List.setIfInBounds_toArray,List.set_cons_zero,List.set_cons_succ,i64_w,i32_w];rfl
     refine one_ (i:=3) (N:=some 27) #[true,true,true,true,false,false,false] rfl rfl zq16 (by decide) (fun K hK=>?_);refine goes_ Try.func47 zq16 rfl #[.agg #[.slice A0_0 n0 c0_0,.slice (some ad) n1 c0_1],.slice Aw mx cw] (by rfl) rfl rfl zq82 ?_;refine (HSee.out _ HB.out).mono ?_
     rintro e w3 ⟨v3,rfl,ho3,hb⟩
     refine ⟨_,rfl,?_⟩;obtain ⟨As,cs,es⟩:=Kd.R_slice ho3;subst es;have m0_:=am (Kd.R_below HO.out hb);have m1_:=am (below_step HB.out hb);have m2_:=am (blk_below BKl.out hb);have m3_:=am (blk_below BKc.out hb);have HR:=am (Kd.R_lower ho3 (below_size HB.out));clear HO HB BKl BKc hb ho3;have HO:=m0_;have HB:=m1_;have BKl:=m2_;have BKc:=m3_;clear m0_ m1_ m2_ m3_;have HAP:=am (impl_NearestWords.apart HR.out HO.out);refine hK.out _ _ ⟨(blk_cell (BKl.out) 0).trans rfl,(blk_cell (BKc.out) 0).trans rfl,(blk_cell (BKc.out) 1).trans rfl⟩ (fun hHeld=>?_);clear hK K;refine norm_ (a':=?_) ?_ ?_;rotate_left
     ·show Act.put _ (some 27) _=_
      simp only [Act.put,List.setIfInBounds_toArray,List.set_cons_zero,List.set_cons_succ,i64_w,i32_w];rfl
     refine one_ (i:=4) (N:=some 28) #[true,true,true,true,true,false,false] rfl rfl zq16 (by decide) (fun K hK=>?_);refine value_ (w1:=?_) (v:=?_) (by rfl) rfl ?_ ?_;rotate_left 2
     ·go_simp
      constructor
      ·rfl
      ·rfl
     refine hK.out _ _ ⟨(blk_cell (blk_alloc BKl.out _) 0).trans rfl,(blk_cell (blk_alloc BKc.out _) 0).trans rfl,(blk_cell (blk_alloc BKc.out _) 1).trans rfl⟩ (fun hHeld=>?_);clear hK K;refine norm_ (a':=?_) ?_ ?_;rotate_left
     ·show Act.put _ (some 28) _=_
      simp only [Act.put,List.setIfInBounds_toArray,List.set_cons_zero,List.set_cons_succ,i64_w,i32_w];rfl
     refine one_ (i:=5) (N:=some 29) #[true,true,true,true,true,true,false] rfl rfl zq16 (by decide) (fun K hK=>?_);refine Kd.R_append_step (Kd.slice 61 k61) (w0:=w) w.heap.size (by rfl) (.tmp 24) (.tmp 28) 87 27 (.slice none 0 0) 24 (by rfl) Try.underlying87 (show (Try.prog.info? 27).map (fun i=>(i.zero,i.size,i.bytes))=some (some (.slice none 0 0),1,24) by kernel_rfl) rfl (by decide) (by omega) _ out ts [.slice As ts.length cs] (fun _=>True) (fun k_=>some k_=(.slice As ts.length cs:Value).ownBlock) (by rfl) (by rfl) ?aP ?aK ?aF ?aO ?aB ?aS ?aL ?_;(case aP=>exact Kd.M_row (Kd.R_tight rfl HR.out));(case aK=>exact fun k_ hk_=>⟨trivial,HAP.out k_ hk_⟩);(case aF=>exact fun _ _=>trivial);(case aO=>exact HO.out);(case aB=>exact HB.out);(case aS=>exact below_size HB.out);(case aL=>have:=HLM.out;omega);intro v1 w5 ho hb hg _;obtain ⟨Ar,cr,er⟩:=Kd.R_slice ho;generalize hnr:(out ++ [ts]).length=nr at er;clear hnr;subst er;have m2_:Aside0 (w5.heap[gl]?=some (.cells #[.slice Ao no co] 87 (0,0))):=⟨blk_grown (by exact BKl.out) hg (Kd.R_ne HO.out BKl.out (by decide))⟩;have m3_:Aside0 (w5.heap[gc]?=some (.cells #[.slice A0_0 n0 c0_0,.slice (some ad) n1 c0_1] 33 (0,0))):=⟨blk_grown (by exact BKc.out) hg (Kd.R_ne HO.out BKc.out (by decide))⟩;have m0_:=am ho;have m1_:=am hb;clear HO HB BKl BKc ho hb hg;have HO:=m0_;have HB:=m1_;have BKl:=m2_;have BKc:=m3_;clear m0_ m1_ m2_ m3_;have hfl:=blk_frozen BKl.out 0;have hcl:w5.cell? ⟨gl,0,none⟩=some (.slice Ao no co):=(blk_cell BKl.out 0).trans rfl;refine hK.out _ _ ⟨(blk_cell (BKl.out) 0).trans rfl,(blk_cell (BKc.out) 0).trans rfl,(blk_cell (BKc.out) 1).trans rfl⟩ (fun hHeld=>?_);clear hK K;refine norm_ (a':=?_) ?_ ?_;rotate_left
     ·show Act.put _ (some 29) _=_
      simp only [Act.put,List.setIfInBounds_toArray,List.set_cons_zero,List.set_cons_succ,i64_w,i32_w];rfl
     refine last_ (i:=6) (N:=none) #[true,true,true,true,true,true,true] rfl rfl zq16 (by decide) (fun K hK=>?_);refine skip_ (w1:=?_) (by rfl) rfl ?_ ?_;rotate_left
     ·go_simp;rfl
     refine hK.out _ _ ?_;clear hK K;refine done_ zq16 ?_;have BKl7:=am (show (w5.setCell ⟨gl,0,none⟩ (.slice Ar nr cr)).heap[gl]?=some (.cells #[.slice Ar nr cr] 87 (0,0)) from blk_put (by exact BKl.out) 0 (.slice Ar nr cr) rfl);have BKc7:=am (blk_far (by exact BKc.out) (p:=⟨gl,0,none⟩) HNG.out (.slice Ar nr cr));have HO7:=am (Kd.R_set HO.out (by exact BKl.out) (by decide) 0 (.slice Ar nr cr));have HB7:=am (below_set (j:=0) (v:=.slice Ar nr cr) HB.out GEl.out)
     go_wp2
     go_roundg (n1 - (j + 1))
     case measure=>omega
     case rel=>exact ⟨j + 1,.slice Ar nr cr,by omega,by omega,by go_num,⟨by rw [HSC.out];exact HO7.out⟩,BKl7,BKc7,HB7⟩
    ·have hljz:¬ (j:Int) < (n1:Int):=by omega
     have hljd:decide ((j:Int) < (n1:Int))=false:=decide_eq_false hljz
     have hlen:((l0_1.take j).map (impl_NearestWords.see k l0_0 l0_1)).length=n1:=by rw [List.length_map,List.length_take,Hn1.out];omega
     rw [hlen] at HO BKl;rw [show l0_1.take j=l0_1 from List.take_of_length_le (by rw [Hn1.out];omega)] at HO;obtain ⟨h1,h2,h3⟩:=Kd.R_reads' HO.out;have HC:=am (show Kd.C (Kd.slice 61 k61) wr Ao n1 (l0_1.map (impl_NearestWords.see k l0_0 l0_1)) by rw [h1];exact h3);have HC2:=am h2;clear h1 h2 h3 hlen;have hl0:wr.cell? ⟨gl,0,none⟩=some (.slice Ao n1 co):=(blk_cell BKl.out 0).trans rfl;have hh:=HH.out
     cases q4 with
     | true =>
      rw [if_pos rfl] at hh;simp only [Prod.mk.injEq] at hh;obtain ⟨rfl,rfl,rfl,rfl⟩:=hh
      go_wp2_with (go_at_call 54;refine (HNE.out wr Ao co gl HC.out HC2.out BKl.out).mono ?_;rintro e w6 ⟨rfl,⟨nd,rfl⟩⟩)
      refine bodyPost_ret (results_list (rs:=[.tmp 2,.tmp 3,.tmp 4,.tmp 5]) rfl (by simp) (.tmp (.tmp (.tmp (.tmp .nil))))) rfl ?_;exact ⟨by first|rfl|simp,pw_below_drewN HB.out nd⟩
     | false =>
      rw [if_neg (by decide)] at hh;simp only [Prod.mk.injEq] at hh;obtain ⟨rfl,rfl,rfl,rfl⟩:=hh
      go_wp2_with (go_at_call 54;refine (HNE.out wr Ao co gl HC.out HC2.out BKl.out).mono ?_;rintro e w6 ⟨rfl,⟨nd,rfl⟩⟩)
      refine bodyPost_ret (results_list (rs:=[.tmp 2,.tmp 3,.tmp 4,.tmp 5]) rfl (by simp) (.tmp (.tmp (.tmp (.tmp .nil))))) rfl ?_;exact ⟨by first|rfl|simp,pw_below_drewN HB.out nd⟩
  ·rw [if_neg hc] at h;cases h
end Go.Proofs.Ytgfknljhogfeaaa.G
end

section
namespace Go.Proofs.Ytgfknljhogfeaaa.G
open Go.RowKit Go.Proofs.YtgfknljhogfeaaaW.PrintWords Go.Proofs.YtgfknljhogfeaaaW.PrintLast Go.Proofs.YtgfknljhogfeaaaW.PrintMore
attribute [local go_sem] max2_int min2_int max_two min_two max_three min_three max_four min_four
set_option linter.unusedVariables false
set_option linter.unusedSimpArgs false
mutual
def impl_ReadSights.j0:Nat→List (S61)→Bool→List (S68)→List (List Int)→Option (Int × Int × Int)
 | 0,_,_,_,_=>none
 | k + 1,x1,x9,x102000,x102001=>if x9=true then (some (0,0,1)) else (if (x102001.length:Int)=0 then (some (0,0,6)) else ((impl_Code_isSeen.f x102000 x102001 x1).bind fun t104=>(if t104=true then (impl_ReadSights.l0 k x1 0 x102000 x102001) else (some (0,0,2)))))
def impl_ReadSights.l0:Nat→List (S61)→Int→List (S68)→List (List Int)→Option (Int × Int × Int)
 | 0,_,_,_,_=>none
 | k + 1,x1,x7,x102000,x102001=>(impl_Code_candidates.f k x102000 x102001 x1 x7).bind fun t105=>(if (t105.length:Int)=0 then (impl_ReadSights.l0 k x1 (wrap64 (x7 + 1)) x102000 x102001) else (if (t105.length:Int)=1 then (if 0 < (t105.length:Int) then (some (rd t105 0,x7,0)) else (none)) else (some (0,0,8))))
end
def impl_ReadSights.f (k:Nat) (l0_0:List (S68)) (l0_1:List (List Int)) (l1:List (S61)):Option (Int × Int × Int):=(impl_ValidCode.f l0_0 l0_1).bind fun t102=>(if t102=true then ((impl_areSights.f l1).bind fun t103=>(impl_ReadSights.j0 k l1 (!t103) l0_0 l0_1)) else (impl_ReadSights.j0 k l1 true l0_0 l0_1))
set_option maxHeartbeats 8000000 in
set_option maxRecDepth 100000 in
theorem impl_ReadSights.calls (k:Nat) (A0_0:Option Addr) (c0_0:Nat) (l0_0:List (S68)) (A0_1:Option Addr) (c0_1:Nat) (l0_1:List (List Int)) (A1:Option Addr) (c1:Nat) (l1:List (S61)) (r1:Int) (r2:Int) (r3:Int) (w:World) (hr0_0:Kd.C k68 w A0_0 l0_0.length l0_0) (hc0_0:l0_0.length≤c0_0) (hr0_1:Kd.C (Kd.slice 5 (Kd.int .u8)) w A0_1 l0_1.length l0_1) (hc0_1:l0_1.length≤c0_1) (hr1:Kd.C k61 w A1 l1.length l1) (hc1:l1.length≤c1) (h:impl_ReadSights.f k l0_0 l0_1 l1=some (r1,r2,r3)) :
  Calls Try.prog 22 #[.agg #[.slice A0_0 l0_0.length c0_0,.slice A0_1 l0_1.length c0_1],.slice A1 l1.length c1] w fun e w'=>e=.returned (.tuple #[.int .i64 r1,.int .i64 r2,.int .i64 r3])∧Below w.heap.size w w':=by
 have hu33:=Try.underlying33;have HR0_0:=am hr0_0;have HC0_0:=am hc0_0;clear hr0_0 hc0_0;have HR0_1:=am hr0_1;have HC0_1:=am hc0_1;clear hr0_1 hc0_1;have HR1:=am hr1;have HC1:=am hc1;clear hr1 hc1;have HB:=am (Below.refl w.heap.size w);have H:((impl_ValidCode.f l0_0 l0_1).bind fun t102=>(if t102=true then ((impl_areSights.f l1).bind fun t103=>(impl_ReadSights.j0 k l1 (!t103) l0_0 l0_1)) else (impl_ReadSights.j0 k l1 true l0_0 l0_1)))=some (r1,r2,r3):=h;clear h;have HC3:=am H;clear H
 go_enter Try.func22,Try.ntmps22
 go_upto_region 1 with (first|((with_reducible refine gate_dst (N:=2) rfl ?_);refine box_event ?hg (N:=2) ?hd (cs:=#[.slice A0_0 l0_0.length c0_0,.slice A0_1 l0_1.length c0_1]) (t:=33) ?hr ?_;(case hd=>rfl);(case hg=>rfl);(case hr=>exact zq15);intro gb101 hg w4 hbox hb;have n0_:=am (below_step zq2 hb);have n1_:=am (hbox);have n2_:=am ((by rw [hg];exact (below_size zq2):w.heap.size≤gb101));have n3_:=am ((by rw [hg];exact (below_size zq2):w.heap.size≤gb101));clear HB;have HB:=n0_;have BK101:=n1_;have GW101:=n2_;have GE101:=n3_;clear n0_ n1_ n2_ n3_;clear hb hbox hg))
 (try simp only [Act.put,List.setIfInBounds_toArray,List.set_cons_zero,List.set_cons_succ])
 go_cut [9] (fun v9 wc=>∃ (kq:Nat) (x9_2:Bool),v9=.bool x9_2∧Aside0 (impl_ReadSights.j0 kq l1 x9_2 l0_0 l0_1=some (r1,r2,r3))∧Aside0 (kq≤k)∧Aside0 (wc.heap[gb101]?=some (.cells #[(.slice A0_0 l0_0.length c0_0),(.slice A0_1 l0_1.length c0_1)] 33 (0,0)))∧Aside0 (Below w.heap.size w wc))
 case first =>
  have H:=HC3.out;clear HC3;replace H:=Option.bind_eq_some_iff.mp H;obtain ⟨t102,A50,H⟩:=H;replace H:(if t102=true then ((impl_areSights.f l1).bind fun t103=>(impl_ReadSights.j0 k l1 (!t103) l0_0 l0_1)) else (impl_ReadSights.j0 k l1 true l0_0 l0_1))=some (r1,r2,r3):=H;have A5:=am A50;clear A50
  by_cases c6:t102=true
  ·subst c6
   have H1:((impl_areSights.f l1).bind fun t103=>(impl_ReadSights.j0 k l1 (!t103) l0_0 l0_1))=some (r1,r2,r3):=by rw [if_pos rfl] at H;exact H
   clear H;have H:=H1;clear H1;replace H:=Option.bind_eq_some_iff.mp H;obtain ⟨t103,A70,H⟩:=H;replace H:(impl_ReadSights.j0 k l1 (!t103) l0_0 l0_1)=some (r1,r2,r3):=H;have A7:=am A70;clear A70;have H':=am H;clear H;have hcz8_0:w4.cell? ⟨gb101,0,none⟩=some (.slice A0_0 l0_0.length c0_0):=(blk_cell BK101.out 0).trans rfl;have hcz8_1:w4.cell? ⟨gb101,1,none⟩=some (.slice A0_1 l0_1.length c0_1):=(blk_cell BK101.out 1).trans rfl;have hfz8_0:=blk_frozen BK101.out 0;have hfz8_1:=blk_frozen BK101.out 1
   go_wp2_with (first|((with_reducible refine gate_callee (f:=30) rfl ?_);refine goesL_ (some 11) rfl rfl Try.func30 zq16 rfl #[.agg #[.slice A0_0 l0_0.length c0_0,.slice A0_1 l0_1.length c0_1]] rfl zq0 ?_;(with_reducible refine (impl_ValidCode.calls _ _ l0_0 _ _ l0_1 true _ ?side1 ?side2 ?side3 ?side4 A5.out).mono ?_);(case side1=>exact zq6);(case side2=>exact HC0_0.out);(case side3=>exact zq7);(case side4=>exact HC0_1.out);rintro e w9 ⟨rfl,hb⟩;refine ⟨_,rfl,?_⟩;have n0_:=am (blk_below (g:=gb101) (o:=.cells #[.slice A0_0 l0_0.length c0_0,.slice A0_1 l0_1.length c0_1] 33 (0,0)) zq4 hb);have n1_:=am (below_step zq1 hb);clear BK101;clear HB;have BK101:=n0_;have HB:=n1_;clear n0_ n1_;(try clear hb);(try clear hb2);(try clear hk);(try clear hi))|(go_at_call 59;(with_reducible refine (impl_areSights.calls _ _ l1 t103 _ ?side1 ?side2 A7.out).mono ?_);(case side1=>exact zq14);(case side2=>exact HC1.out);rintro e w10 ⟨rfl,hb⟩;have n0_:=am (blk_below (g:=gb101) (o:=.cells #[.slice A0_0 l0_0.length c0_0,.slice A0_1 l0_1.length c0_1] 33 (0,0)) zq4 hb);have n1_:=am (below_step zq1 hb);clear BK101;clear HB;have BK101:=n0_;have HB:=n1_;clear n0_ n1_;(try clear hb);(try clear hb2);(try clear hk);(try clear hi)))
   go_meet
   case rel=>exact ⟨_,(!t103),zq3,H',⟨by first|omega|exact Nat.le_refl _⟩,⟨by (with_reducible repeat (first|refine blk_drewN ?_ _|refine blk_drew ?_|refine blk_alloc ?_ _));exact BK101.out⟩,⟨by repeat (first|(with_reducible first|exact HB.out|apply below_alloc|apply pw_below_drewN|apply below_drew1|refine below_set ?_ GE101.out)|exact HB.out)⟩⟩
  ·replace c6:=Bool.eq_false_iff.mpr c6;subst c6
   have H1:(impl_ReadSights.j0 k l1 true l0_0 l0_1)=some (r1,r2,r3):=by rw [if_neg (show ¬ (false=true) by decide)] at H;exact H
   clear H;have H:=H1;clear H1;have H':=am H;clear H;have hcz11_0:w4.cell? ⟨gb101,0,none⟩=some (.slice A0_0 l0_0.length c0_0):=(blk_cell BK101.out 0).trans rfl;have hcz11_1:w4.cell? ⟨gb101,1,none⟩=some (.slice A0_1 l0_1.length c0_1):=(blk_cell BK101.out 1).trans rfl;have hfz11_0:=blk_frozen BK101.out 0;have hfz11_1:=blk_frozen BK101.out 1
   go_wp2_with (first|((with_reducible refine gate_callee (f:=30) rfl ?_);refine goesL_ (some 11) rfl rfl Try.func30 zq16 rfl #[.agg #[.slice A0_0 l0_0.length c0_0,.slice A0_1 l0_1.length c0_1]] rfl zq0 ?_;(with_reducible refine (impl_ValidCode.calls _ _ l0_0 _ _ l0_1 false _ ?side1 ?side2 ?side3 ?side4 A5.out).mono ?_);(case side1=>exact zq6);(case side2=>exact HC0_0.out);(case side3=>exact zq7);(case side4=>exact HC0_1.out);rintro e w12 ⟨rfl,hb⟩;refine ⟨_,rfl,?_⟩;have n0_:=am (blk_below (g:=gb101) (o:=.cells #[.slice A0_0 l0_0.length c0_0,.slice A0_1 l0_1.length c0_1] 33 (0,0)) zq4 hb);have n1_:=am (below_step zq1 hb);clear BK101;clear HB;have BK101:=n0_;have HB:=n1_;clear n0_ n1_;(try clear hb);(try clear hb2);(try clear hk);(try clear hi)))
   go_meet
   case rel=>exact ⟨_,(true),zq3,H',⟨by first|omega|exact Nat.le_refl _⟩,⟨by (with_reducible repeat (first|refine blk_drewN ?_ _|refine blk_drew ?_|refine blk_alloc ?_ _));exact BK101.out⟩,⟨by repeat (first|(with_reducible first|exact HB.out|apply below_alloc|apply pw_below_drewN|apply below_drew1|refine below_set ?_ GE101.out)|exact HB.out)⟩⟩
 case rest =>
  clear HC3;(try clear c1);(try clear c2);(try clear p2);(try clear c3);(try clear c6);(try clear hcz11_0);(try clear hcz11_1);(try clear hcz8_0);(try clear hcz8_1);(try clear hfz11_0);(try clear hfz11_1);(try clear hfz8_0);(try clear hfz8_1);obtain ⟨kq,x9_2,rfl,HA,HJ2,BK101,HB⟩:=hcut
  cases kq with
  | zero=>exact absurd HA.out (by simp [impl_ReadSights.j0])
  | succ kj2 =>
   have H:=HA.out;clear HA;simp only [impl_ReadSights.j0] at H
   by_cases c13:x9_2=true
   ·subst c13
    have H1:(some (0,0,1))=some (r1,r2,r3):=by rw [if_pos rfl] at H;exact H
    clear H;have H:=H1;clear H1;simp only [Option.some.injEq,Prod.mk.injEq] at H;obtain ⟨rfl,rfl,rfl⟩:=H
    go_wp2
    go_ret3
    exact ⟨by first|rfl|(simp [errW_none,errW_some,IntKind.wrap_i64,wrap64];done)|(simp [errW_none,errW_some] <;> rfl)|(simp [*,errW_none,errW_some] <;> rfl),by repeat (first|(with_reducible first|exact HB.out|apply below_alloc|apply pw_below_drewN|apply below_drew1|refine below_set ?_ GE101.out)|exact HB.out)⟩
   ·replace c13:=Bool.eq_false_iff.mpr c13;subst c13
    have H1:(if (l0_1.length:Int)=0 then (some (0,0,6)) else ((impl_Code_isSeen.f l0_0 l0_1 l1).bind fun t104=>(if t104=true then (impl_ReadSights.l0 kj2 l1 0 l0_0 l0_1) else (some (0,0,2)))))=some (r1,r2,r3):=by rw [if_neg (show ¬ (false=true) by decide)] at H;exact H
    clear H;have H:=H1;clear H1
    by_cases c14:(l0_1.length:Int)=0
    ·rw [if_pos c14] at H;have c14b0:((l0_1.length:Int) == 0)=true:=beq_iff_eq.mpr c14;have c14b1:((l0_1.length:Int) != 0)=false:=bne_eq_false_iff_eq.mpr c14;clear c14;simp only [Option.some.injEq,Prod.mk.injEq] at H;obtain ⟨rfl,rfl,rfl⟩:=H;have hcz15_0:wc.cell? ⟨gb101,0,none⟩=some (.slice A0_0 l0_0.length c0_0):=(blk_cell BK101.out 0).trans rfl;have hcz15_1:wc.cell? ⟨gb101,1,none⟩=some (.slice A0_1 l0_1.length c0_1):=(blk_cell BK101.out 1).trans rfl;have hfz15_0:=blk_frozen BK101.out 0;have hfz15_1:=blk_frozen BK101.out 1
     go_wp2
     go_ret3
     exact ⟨by first|rfl|(simp [errW_none,errW_some,IntKind.wrap_i64,wrap64];done)|(simp [errW_none,errW_some] <;> rfl)|(simp [*,errW_none,errW_some] <;> rfl),by repeat (first|(with_reducible first|exact HB.out|apply below_alloc|apply pw_below_drewN|apply below_drew1|refine below_set ?_ GE101.out)|exact HB.out)⟩
    ·rw [if_neg c14] at H;have c14b0:((l0_1.length:Int) == 0)=false:=beq_eq_false_iff_ne.mpr c14;have c14b1:((l0_1.length:Int) != 0)=true:=bne_iff_ne.mpr c14
     have c14b2:¬ (l0_1=[]):=fun h_=>c14 (by rw [h_];rfl)
     replace H:=Option.bind_eq_some_iff.mp H;obtain ⟨t104,A160,H⟩:=H;replace H:(if t104=true then (impl_ReadSights.l0 kj2 l1 0 l0_0 l0_1) else (some (0,0,2)))=some (r1,r2,r3):=H;have A16:=am A160;clear A160
     by_cases c17:t104=true
     ·subst c17
      have H1:(impl_ReadSights.l0 kj2 l1 0 l0_0 l0_1)=some (r1,r2,r3):=by rw [if_pos rfl] at H;exact H
      clear H;have H:=H1;clear H1;have H':=am H;clear H;have hcz18_0:wc.cell? ⟨gb101,0,none⟩=some (.slice A0_0 l0_0.length c0_0):=(blk_cell BK101.out 0).trans rfl;have hcz18_1:wc.cell? ⟨gb101,1,none⟩=some (.slice A0_1 l0_1.length c0_1):=(blk_cell BK101.out 1).trans rfl;have hfz18_0:=blk_frozen BK101.out 0;have hfz18_1:=blk_frozen BK101.out 1
      go_wp2_with (first|((with_reducible refine gate_callee (f:=60) rfl ?_);refine goesL_ (some 26) rfl rfl Try.func60 zq16 rfl #[.agg #[.slice A0_0 l0_0.length c0_0,.slice A0_1 l0_1.length c0_1],.slice A1 l1.length c1] rfl zq0 ?_;(with_reducible refine (impl_Code_isSeen.calls _ _ l0_0 _ _ l0_1 _ _ l1 true _ ?side1 ?side2 ?side3 ?side4 ?side5 ?side6 A16.out).mono ?_);(case side1=>exact zq6);(case side2=>exact HC0_0.out);(case side3=>exact zq7);(case side4=>exact HC0_1.out);(case side5=>exact zq14);(case side6=>exact HC1.out);rintro e w19 ⟨rfl,hb⟩;refine ⟨_,rfl,?_⟩;have n0_:=am (blk_below (g:=gb101) (o:=.cells #[.slice A0_0 l0_0.length c0_0,.slice A0_1 l0_1.length c0_1] 33 (0,0)) zq4 hb);have n1_:=am (below_step zq1 hb);clear BK101;clear HB;have BK101:=n0_;have HB:=n1_;clear n0_ n1_;(try clear hb);(try clear hb2);(try clear hk);(try clear hi)))
      go_loopg [7] kj2 (fun kq v7 w'=>∃ (x7_2:Int),v7=.int .i64 x7_2∧Aside0 (impl_ReadSights.l0 kq l1 x7_2 l0_0 l0_1=some (r1,r2,r3))∧Aside0 (kq≤kj2)∧Aside0 (w'.heap[gb101]?=some (.cells #[(.slice A0_0 l0_0.length c0_0),(.slice A0_1 l0_1.length c0_1)] 33 (0,0)))∧Aside0 (Below w.heap.size w w'))
      case atStart=>exact ⟨(0),zq3,H',⟨Nat.le_refl _⟩,⟨by (with_reducible repeat (first|refine blk_drewN ?_ _|refine blk_drew ?_|refine blk_alloc ?_ _));exact BK101.out⟩,⟨by repeat (first|(with_reducible first|exact HB.out|apply below_alloc|apply pw_below_drewN|apply below_drew1|refine below_set ?_ GE101.out)|exact HB.out)⟩⟩
      case round =>
       clear H';(try clear c1);(try clear c2);(try clear p2);(try clear c3);(try clear c6);(try clear c13);(try clear c14);(try clear c14b0);(try clear c14b1);(try clear c14b2);(try clear c17);(try clear hcz11_0);(try clear hcz11_1);(try clear hcz15_0);(try clear hcz15_1);(try clear hcz18_0);(try clear hcz18_1);(try clear hcz8_0);(try clear hcz8_1);(try clear hfz11_0);(try clear hfz11_1);(try clear hfz15_0);(try clear hfz15_1);(try clear hfz18_0);(try clear hfz18_1);(try clear hfz8_0);(try clear hfz8_1);(try clear p2);obtain ⟨x7_2,rfl,HA,HK2,BK101,HB⟩:=hrel
       cases gk with
       | zero=>exact absurd HA.out (by simp [impl_ReadSights.l0])
       | succ k2 =>
        have H:=HA.out;clear HA;simp only [impl_ReadSights.l0] at H;replace H:=Option.bind_eq_some_iff.mp H;obtain ⟨t105,A200,H⟩:=H;replace H:(if (t105.length:Int)=0 then (impl_ReadSights.l0 k2 l1 (wrap64 (x7_2 + 1)) l0_0 l0_1) else (if (t105.length:Int)=1 then (if 0 < (t105.length:Int) then (some (rd t105 0,x7_2,0)) else (none)) else (some (0,0,8))))=some (r1,r2,r3):=H;have A20:=am A200;clear A200
        by_cases c21:(t105.length:Int)=0
        ·rw [if_pos c21] at H;have c21b0:((t105.length:Int) == 0)=true:=beq_iff_eq.mpr c21;have c21b1:((t105.length:Int) != 0)=false:=bne_eq_false_iff_eq.mpr c21;clear c21;have H':=am H;clear H;have hcz22_0:wr.cell? ⟨gb101,0,none⟩=some (.slice A0_0 l0_0.length c0_0):=(blk_cell BK101.out 0).trans rfl;have hcz22_1:wr.cell? ⟨gb101,1,none⟩=some (.slice A0_1 l0_1.length c0_1):=(blk_cell BK101.out 1).trans rfl;have hfz22_0:=blk_frozen BK101.out 0;have hfz22_1:=blk_frozen BK101.out 1
         go_wp2_with (first|((with_reducible refine gate_callee (f:=61) rfl ?_);refine goesL_ (some 33) rfl rfl Try.func61 zq16 rfl #[.agg #[.slice A0_0 l0_0.length c0_0,.slice A0_1 l0_1.length c0_1],.slice A1 l1.length c1,.int .i64 x7_2] rfl zq0 ?_;(with_reducible refine (impl_Code_candidates.calls k2 _ _ l0_0 _ _ l0_1 _ _ l1 x7_2 t105 _ ?side1 ?side2 ?side3 ?side4 ?side5 ?side6 A20.out).mono ?_);(case side1=>exact zq6);(case side2=>exact HC0_0.out);(case side3=>exact zq7);(case side4=>exact HC0_1.out);(case side5=>exact zq14);(case side6=>exact HC1.out);rintro e w23 ⟨v106,rfl,ho0,hb⟩;refine ⟨_,rfl,?_⟩;have n0_:=am (Kd.R_lower ho0 (below_size zq1));have n1_:=am (blk_below (g:=gb101) (o:=.cells #[.slice A0_0 l0_0.length c0_0,.slice A0_1 l0_1.length c0_1] 33 (0,0)) zq4 hb);have n2_:=am (below_step zq1 hb);clear BK101;clear HB;have HO107:=n0_;have BK101:=n1_;have HB:=n2_;clear n0_ n1_ n2_;(try clear hb);(try clear hb2);(try clear hk);(try clear hi);(try clear ho0);obtain ⟨Ao24,co24,eo24⟩:=Kd.R_slice HO107.out;subst eo24))
         go_roundg k2
         case measure=>have:=HJ2.out;have:=HK2.out;omega
         case rel=>exact ⟨(wrap64 (x7_2 + 1)),zq3,H',⟨by have:=HJ2.out;have:=HK2.out;omega⟩,⟨by (with_reducible repeat (first|refine blk_drewN ?_ _|refine blk_drew ?_|refine blk_alloc ?_ _));exact BK101.out⟩,⟨by repeat (first|(with_reducible first|exact HB.out|apply below_alloc|apply pw_below_drewN|apply below_drew1|refine below_set ?_ GE101.out)|exact HB.out)⟩⟩
        ·rw [if_neg c21] at H;have c21b0:((t105.length:Int) == 0)=false:=beq_eq_false_iff_ne.mpr c21;have c21b1:((t105.length:Int) != 0)=true:=bne_iff_ne.mpr c21
         have c21b2:¬ (t105=[]):=fun h_=>c21 (by rw [h_];rfl)
         by_cases c25:(t105.length:Int)=1
         ·rw [if_pos c25] at H;have c25b0:((t105.length:Int) == 1)=true:=beq_iff_eq.mpr c25;have c25b1:((t105.length:Int) != 1)=false:=bne_eq_false_iff_eq.mpr c25;clear c25
          by_cases c26:0 < (t105.length:Int)
          ·rw [if_pos c26] at H;have c26b0:decide (0 < (t105.length:Int))=true:=decide_eq_true c26;have c26b1:decide (0 < t105.length)=true:=decide_eq_true (by omega);clear c26;simp only [Option.some.injEq,Prod.mk.injEq] at H;obtain ⟨rfl,rfl,rfl⟩:=H;have hcz27_0:wr.cell? ⟨gb101,0,none⟩=some (.slice A0_0 l0_0.length c0_0):=(blk_cell BK101.out 0).trans rfl;have hcz27_1:wr.cell? ⟨gb101,1,none⟩=some (.slice A0_1 l0_1.length c0_1):=(blk_cell BK101.out 1).trans rfl;have hfz27_0:=blk_frozen BK101.out 0;have hfz27_1:=blk_frozen BK101.out 1
           go_wp2_with (first|((with_reducible refine gate_callee (f:=61) rfl ?_);refine goesL_ (some 33) rfl rfl Try.func61 zq16 rfl #[.agg #[.slice A0_0 l0_0.length c0_0,.slice A0_1 l0_1.length c0_1],.slice A1 l1.length c1,.int .i64 x7_2] rfl zq0 ?_;(with_reducible refine (impl_Code_candidates.calls k2 _ _ l0_0 _ _ l0_1 _ _ l1 x7_2 t105 _ ?side1 ?side2 ?side3 ?side4 ?side5 ?side6 A20.out).mono ?_);(case side1=>exact zq6);(case side2=>exact HC0_0.out);(case side3=>exact zq7);(case side4=>exact HC0_1.out);(case side5=>exact zq14);(case side6=>exact HC1.out);rintro e w28 ⟨v106,rfl,ho0,hb⟩;refine ⟨_,rfl,?_⟩;have n0_:=am (Kd.R_lower ho0 (below_size zq1));have n1_:=am (blk_below (g:=gb101) (o:=.cells #[.slice A0_0 l0_0.length c0_0,.slice A0_1 l0_1.length c0_1] 33 (0,0)) zq4 hb);have n2_:=am (below_step zq1 hb);clear BK101;clear HB;have HO107:=n0_;have BK101:=n1_;have HB:=n2_;clear n0_ n1_ n2_;(try clear hb);(try clear hb2);(try clear hk);(try clear hi);(try clear ho0);obtain ⟨Ao29,co29,eo29⟩:=Kd.R_slice HO107.out;subst eo29;have p108:0≤(0:Int):=(by omega);have q108:0 < (t105.length:Int):=of_decide_eq_true zq9;obtain ⟨ad108,e108,hx108_0⟩:=Kd.at_int (Kd.R_reads' HO107.out).2.2 0 p108 q108;cases e108;have qi108:(0 < t105.length)=True:=eq_true (by omega);(try rw [show ((0:Int)).toNat=0 from rfl] at hx108_0);(try rw [Addr.add_zero'] at hx108_0);replace p108:=eq_true p108;replace q108:=eq_true q108))
           go_ret3
           exact ⟨by first|rfl|(simp [errW_none,errW_some,IntKind.wrap_i64,wrap64];done)|(simp [errW_none,errW_some] <;> rfl)|(simp [*,errW_none,errW_some] <;> rfl),by repeat (first|(with_reducible first|exact HB.out|apply below_alloc|apply pw_below_drewN|apply below_drew1|refine below_set ?_ GE101.out)|exact HB.out)⟩
          ·rw [if_neg c26] at H;exact absurd H (by simp)
         ·rw [if_neg c25] at H;have c25b0:((t105.length:Int) == 1)=false:=beq_eq_false_iff_ne.mpr c25;have c25b1:((t105.length:Int) != 1)=true:=bne_iff_ne.mpr c25;simp only [Option.some.injEq,Prod.mk.injEq] at H;obtain ⟨rfl,rfl,rfl⟩:=H;have hcz30_0:wr.cell? ⟨gb101,0,none⟩=some (.slice A0_0 l0_0.length c0_0):=(blk_cell BK101.out 0).trans rfl;have hcz30_1:wr.cell? ⟨gb101,1,none⟩=some (.slice A0_1 l0_1.length c0_1):=(blk_cell BK101.out 1).trans rfl;have hfz30_0:=blk_frozen BK101.out 0;have hfz30_1:=blk_frozen BK101.out 1
          go_wp2_with (first|((with_reducible refine gate_callee (f:=61) rfl ?_);refine goesL_ (some 33) rfl rfl Try.func61 zq16 rfl #[.agg #[.slice A0_0 l0_0.length c0_0,.slice A0_1 l0_1.length c0_1],.slice A1 l1.length c1,.int .i64 x7_2] rfl zq0 ?_;(with_reducible refine (impl_Code_candidates.calls k2 _ _ l0_0 _ _ l0_1 _ _ l1 x7_2 t105 _ ?side1 ?side2 ?side3 ?side4 ?side5 ?side6 A20.out).mono ?_);(case side1=>exact zq6);(case side2=>exact HC0_0.out);(case side3=>exact zq7);(case side4=>exact HC0_1.out);(case side5=>exact zq14);(case side6=>exact HC1.out);rintro e w31 ⟨v106,rfl,ho0,hb⟩;refine ⟨_,rfl,?_⟩;have n0_:=am (Kd.R_lower ho0 (below_size zq1));have n1_:=am (blk_below (g:=gb101) (o:=.cells #[.slice A0_0 l0_0.length c0_0,.slice A0_1 l0_1.length c0_1] 33 (0,0)) zq4 hb);have n2_:=am (below_step zq1 hb);clear BK101;clear HB;have HO107:=n0_;have BK101:=n1_;have HB:=n2_;clear n0_ n1_ n2_;(try clear hb);(try clear hb2);(try clear hk);(try clear hi);(try clear ho0);obtain ⟨Ao32,co32,eo32⟩:=Kd.R_slice HO107.out;subst eo32))
          go_ret3
          exact ⟨by first|rfl|(simp [errW_none,errW_some,IntKind.wrap_i64,wrap64];done)|(simp [errW_none,errW_some] <;> rfl)|(simp [*,errW_none,errW_some] <;> rfl),by repeat (first|(with_reducible first|exact HB.out|apply below_alloc|apply pw_below_drewN|apply below_drew1|refine below_set ?_ GE101.out)|exact HB.out)⟩
     ·replace c17:=Bool.eq_false_iff.mpr c17;subst c17
      have H1:(some (0,0,2))=some (r1,r2,r3):=by rw [if_neg (show ¬ (false=true) by decide)] at H;exact H
      clear H;have H:=H1;clear H1;simp only [Option.some.injEq,Prod.mk.injEq] at H;obtain ⟨rfl,rfl,rfl⟩:=H;have hcz33_0:wc.cell? ⟨gb101,0,none⟩=some (.slice A0_0 l0_0.length c0_0):=(blk_cell BK101.out 0).trans rfl;have hcz33_1:wc.cell? ⟨gb101,1,none⟩=some (.slice A0_1 l0_1.length c0_1):=(blk_cell BK101.out 1).trans rfl;have hfz33_0:=blk_frozen BK101.out 0;have hfz33_1:=blk_frozen BK101.out 1
      go_wp2_with (first|((with_reducible refine gate_callee (f:=60) rfl ?_);refine goesL_ (some 26) rfl rfl Try.func60 zq16 rfl #[.agg #[.slice A0_0 l0_0.length c0_0,.slice A0_1 l0_1.length c0_1],.slice A1 l1.length c1] rfl zq0 ?_;(with_reducible refine (impl_Code_isSeen.calls _ _ l0_0 _ _ l0_1 _ _ l1 false _ ?side1 ?side2 ?side3 ?side4 ?side5 ?side6 A16.out).mono ?_);(case side1=>exact zq6);(case side2=>exact HC0_0.out);(case side3=>exact zq7);(case side4=>exact HC0_1.out);(case side5=>exact zq14);(case side6=>exact HC1.out);rintro e w34 ⟨rfl,hb⟩;refine ⟨_,rfl,?_⟩;have n0_:=am (blk_below (g:=gb101) (o:=.cells #[.slice A0_0 l0_0.length c0_0,.slice A0_1 l0_1.length c0_1] 33 (0,0)) zq4 hb);have n1_:=am (below_step zq1 hb);clear BK101;clear HB;have BK101:=n0_;have HB:=n1_;clear n0_ n1_;(try clear hb);(try clear hb2);(try clear hk);(try clear hi)))
      go_ret3
      exact ⟨by first|rfl|(simp [errW_none,errW_some,IntKind.wrap_i64,wrap64];done)|(simp [errW_none,errW_some] <;> rfl)|(simp [*,errW_none,errW_some] <;> rfl),by repeat (first|(with_reducible first|exact HB.out|apply below_alloc|apply pw_below_drewN|apply below_drew1|refine below_set ?_ GE101.out)|exact HB.out)⟩
end Go.Proofs.Ytgfknljhogfeaaa.G
end

section
namespace Go.Proofs.Ytgfknljhogfeaaa.G
open Go.RowKit Go.Proofs.YtgfknljhogfeaaaW.PrintWords Go.Proofs.YtgfknljhogfeaaaW.PrintLast Go.Proofs.YtgfknljhogfeaaaW.PrintMore
attribute [local go_sem] max2_int min2_int max_two min_two max_three min_three max_four min_four
set_option linter.unusedVariables false
set_option linter.unusedSimpArgs false
def impl_SightDistance.j0:Nat→List (S61)→List (S61)→Bool→Option (Int × Int)
 | 0,_,_,_=>none
 | k + 1,x0,x1,x6=>if x6=true then (some (0,1)) else (if (x0.length:Int)=(x1.length:Int) then ((impl_sightsApart.f x0 x1).bind fun t103=>(some (t103,0))) else (some (0,2)))
def impl_SightDistance.f (k:Nat) (l0:List (S61)) (l1:List (S61)):Option (Int × Int):=(impl_areSights.f l0).bind fun t101=>(if t101=true then ((impl_areSights.f l1).bind fun t102=>(impl_SightDistance.j0 k l0 l1 (!t102))) else (impl_SightDistance.j0 k l0 l1 true))
set_option maxHeartbeats 8000000 in
set_option maxRecDepth 100000 in
theorem impl_SightDistance.calls (k:Nat) (A0:Option Addr) (c0:Nat) (l0:List (S61)) (A1:Option Addr) (c1:Nat) (l1:List (S61)) (r1:Int) (r2:Int) (w:World) (hr0:Kd.C k61 w A0 l0.length l0) (hc0:l0.length≤c0) (hr1:Kd.C k61 w A1 l1.length l1) (hc1:l1.length≤c1) (h:impl_SightDistance.f k l0 l1=some (r1,r2)) :
  Calls Try.prog 35 #[.slice A0 l0.length c0,.slice A1 l1.length c1] w fun e w'=>e=.returned (.tuple #[.int .i64 r1,.int .i64 r2])∧Below w.heap.size w w':=by
 have HR0:=am hr0;have HC0:=am hc0;clear hr0 hc0;have HR1:=am hr1;have HC1:=am hc1;clear hr1 hc1;have HB:=am (Below.refl w.heap.size w);have H:((impl_areSights.f l0).bind fun t101=>(if t101=true then ((impl_areSights.f l1).bind fun t102=>(impl_SightDistance.j0 k l0 l1 (!t102))) else (impl_SightDistance.j0 k l0 l1 true)))=some (r1,r2):=h;clear h;have HC3:=am H;clear H
 go_enter Try.func35,Try.ntmps35
 go_upto_region 1 with (fail)
 go_cut [6] (fun v6 wc=>∃ (kq:Nat) (x6_2:Bool),v6=.bool x6_2∧Aside0 (impl_SightDistance.j0 kq l0 l1 x6_2=some (r1,r2))∧Aside0 (kq≤k)∧Aside0 (Below w.heap.size w wc))
 case first =>
  have H:=HC3.out;clear HC3;replace H:=Option.bind_eq_some_iff.mp H;obtain ⟨t101,A40,H⟩:=H;replace H:(if t101=true then ((impl_areSights.f l1).bind fun t102=>(impl_SightDistance.j0 k l0 l1 (!t102))) else (impl_SightDistance.j0 k l0 l1 true))=some (r1,r2):=H;have A4:=am A40;clear A40
  by_cases c5:t101=true
  ·subst c5
   have H1:((impl_areSights.f l1).bind fun t102=>(impl_SightDistance.j0 k l0 l1 (!t102)))=some (r1,r2):=by rw [if_pos rfl] at H;exact H
   clear H;have H:=H1;clear H1;replace H:=Option.bind_eq_some_iff.mp H;obtain ⟨t102,A60,H⟩:=H;replace H:(impl_SightDistance.j0 k l0 l1 (!t102))=some (r1,r2):=H;have A6:=am A60;clear A60;have H':=am H;clear H
   go_wp2_with (first|((with_reducible refine gate_callee (f:=59) rfl ?_);refine goesL_ (some 8) rfl rfl Try.func59 zq16 rfl #[.slice A0 l0.length c0] rfl zq0 ?_;(with_reducible refine (impl_areSights.calls _ _ l0 true _ ?side1 ?side2 A4.out).mono ?_);(case side1=>exact zq12);(case side2=>exact HC0.out);rintro e w7 ⟨rfl,hb⟩;refine ⟨_,rfl,?_⟩;have n0_:=am (below_step zq2 hb);clear HB;have HB:=n0_;clear n0_;(try clear hb);(try clear hb2);(try clear hk);(try clear hi))|(go_at_call 59;(with_reducible refine (impl_areSights.calls _ _ l1 t102 _ ?side1 ?side2 A6.out).mono ?_);(case side1=>exact zq14);(case side2=>exact HC1.out);rintro e w8 ⟨rfl,hb⟩;have n0_:=am (below_step zq2 hb);clear HB;have HB:=n0_;clear n0_;(try clear hb);(try clear hb2);(try clear hk);(try clear hi)))
   go_meet
   case rel=>exact ⟨_,(!t102),zq3,H',⟨by first|omega|exact Nat.le_refl _⟩,⟨by repeat (first|(with_reducible first|exact HB.out|apply below_alloc|apply pw_below_drewN|apply below_drew1)|exact HB.out)⟩⟩
  ·replace c5:=Bool.eq_false_iff.mpr c5;subst c5
   have H1:(impl_SightDistance.j0 k l0 l1 true)=some (r1,r2):=by rw [if_neg (show ¬ (false=true) by decide)] at H;exact H
   clear H;have H:=H1;clear H1;have H':=am H;clear H
   go_wp2_with (first|((with_reducible refine gate_callee (f:=59) rfl ?_);refine goesL_ (some 8) rfl rfl Try.func59 zq16 rfl #[.slice A0 l0.length c0] rfl zq0 ?_;(with_reducible refine (impl_areSights.calls _ _ l0 false _ ?side1 ?side2 A4.out).mono ?_);(case side1=>exact zq12);(case side2=>exact HC0.out);rintro e w9 ⟨rfl,hb⟩;refine ⟨_,rfl,?_⟩;have n0_:=am (below_step zq2 hb);clear HB;have HB:=n0_;clear n0_;(try clear hb);(try clear hb2);(try clear hk);(try clear hi)))
   go_meet
   case rel=>exact ⟨_,(true),zq3,H',⟨by first|omega|exact Nat.le_refl _⟩,⟨by repeat (first|(with_reducible first|exact HB.out|apply below_alloc|apply pw_below_drewN|apply below_drew1)|exact HB.out)⟩⟩
 case rest =>
  clear HC3;(try clear c1);(try clear p2);(try clear c3);(try clear c5);obtain ⟨kq,x6_2,rfl,HA,HJ2,HB⟩:=hcut
  cases kq with
  | zero=>exact absurd HA.out (by simp [impl_SightDistance.j0])
  | succ kj2 =>
   have H:=HA.out;clear HA;simp only [impl_SightDistance.j0] at H
   by_cases c10:x6_2=true
   ·subst c10
    have H1:(some (0,1))=some (r1,r2):=by rw [if_pos rfl] at H;exact H
    clear H;have H:=H1;clear H1;simp only [Option.some.injEq,Prod.mk.injEq] at H;obtain ⟨rfl,rfl⟩:=H
    go_wp2
    go_ret2
    exact ⟨by first|rfl|(simp [errW_none,errW_some,IntKind.wrap_i64,wrap64];done)|(simp [errW_none,errW_some] <;> rfl)|(simp [*,errW_none,errW_some] <;> rfl),by repeat (first|(with_reducible first|exact HB.out|apply below_alloc|apply pw_below_drewN|apply below_drew1)|exact HB.out)⟩
   ·replace c10:=Bool.eq_false_iff.mpr c10;subst c10
    have H1:(if (l0.length:Int)=(l1.length:Int) then ((impl_sightsApart.f l0 l1).bind fun t103=>(some (t103,0))) else (some (0,2)))=some (r1,r2):=by rw [if_neg (show ¬ (false=true) by decide)] at H;exact H
    clear H;have H:=H1;clear H1
    by_cases c11:(l0.length:Int)=(l1.length:Int)
    ·rw [if_pos c11] at H;have c11b0:((l0.length:Int) == (l1.length:Int))=true:=beq_iff_eq.mpr c11;have c11b1:((l0.length:Int) != (l1.length:Int))=false:=bne_eq_false_iff_eq.mpr c11
     have c11b2:(l0.length == l1.length)=true:=by first|simpa using c11|(simp at c11 ⊢;omega)
     clear c11;replace H:=Option.bind_eq_some_iff.mp H;obtain ⟨t103,A120,H⟩:=H;replace H:(some (t103,0))=some (r1,r2):=H;have A12:=am A120;clear A120;simp only [Option.some.injEq,Prod.mk.injEq] at H;obtain ⟨rfl,rfl⟩:=H
     go_wp2_with (first|((with_reducible refine gate_callee (f:=56) rfl ?_);refine goesL_ (some 23) rfl rfl Try.func56 zq16 rfl #[.slice A0 l0.length c0,.slice A1 l1.length c1] rfl zq0 ?_;(with_reducible refine (impl_sightsApart.calls _ _ l0 _ _ l1 t103 _ ?side1 ?side2 ?side3 ?side4 A12.out).mono ?_);(case side1=>exact zq12);(case side2=>exact HC0.out);(case side3=>exact zq14);(case side4=>exact HC1.out);rintro e w' ⟨rfl,⟨nd,rfl⟩⟩;refine ⟨_,rfl,?_⟩))
     go_ret2
     exact ⟨by first|rfl|(simp [errW_none,errW_some,IntKind.wrap_i64,wrap64];done)|(simp [errW_none,errW_some] <;> rfl)|(simp [*,errW_none,errW_some] <;> rfl),by repeat (first|(with_reducible first|exact HB.out|apply below_alloc|apply pw_below_drewN|apply below_drew1)|exact HB.out)⟩
    ·rw [if_neg c11] at H;have c11b0:((l0.length:Int) == (l1.length:Int))=false:=beq_eq_false_iff_ne.mpr c11;have c11b1:((l0.length:Int) != (l1.length:Int))=true:=bne_iff_ne.mpr c11
     have c11b2:(l0.length == l1.length)=false:=by first|simpa using c11|(simp at c11 ⊢;omega)
     simp only [Option.some.injEq,Prod.mk.injEq] at H;obtain ⟨rfl,rfl⟩:=H
     go_wp2
     go_ret2
     exact ⟨by first|rfl|(simp [errW_none,errW_some,IntKind.wrap_i64,wrap64];done)|(simp [errW_none,errW_some] <;> rfl)|(simp [*,errW_none,errW_some] <;> rfl),by repeat (first|(with_reducible first|exact HB.out|apply below_alloc|apply pw_below_drewN|apply below_drew1)|exact HB.out)⟩
end Go.Proofs.Ytgfknljhogfeaaa.G
end

section
namespace Go.Proofs.Ytgfknljhogfeaaa.G
open Go.RowKit Go.Proofs.YtgfknljhogfeaaaW.PrintWords Go.Proofs.YtgfknljhogfeaaaW.PrintLast Go.Proofs.YtgfknljhogfeaaaW.PrintMore
attribute [local go_sem] max2_int min2_int max_two min_two max_three min_three max_four min_four
set_option linter.unusedVariables false
set_option linter.unusedSimpArgs false
def impl_size_Word.f (l0:List (List Int)):Option (Int):=some (l0.length:Int)
set_option maxHeartbeats 8000000 in
set_option maxRecDepth 100000 in
theorem impl_size_Word.calls (A0:Option Addr) (c0:Nat) (l0:List (List Int)) (r:Int) (w:World) (hr0:Kd.C (Kd.slice 5 (Kd.int .u8)) w A0 l0.length l0) (hc0:l0.length≤c0) (h:impl_size_Word.f l0=some r) :
  Calls Try.prog 46 #[.slice A0 l0.length c0] w fun e w'=>e=.returned (.int .i64 r)∧Drawn0 w w':=by
 have HR0:=am hr0;have HC0:=am hc0;clear hr0 hc0;have H:(some (l0.length:Int))=some r:=h;clear h;obtain rfl:=Option.some.inj H
 go_enter Try.func46,Try.ntmps46
 go_wp2
 go_ret
 exact ⟨by first|rfl|(simp only [IntKind.wrap_i64,wrap64];done)|(simp;done)|(simp [*];done),by repeat (first|exact Drawn0.refl _|apply Drawn0.step)⟩
end Go.Proofs.Ytgfknljhogfeaaa.G
end

section
namespace Go.Proofs.Ytgfknljhogfeaaa.G
open Go.RowKit Go.Proofs.YtgfknljhogfeaaaW.PrintWords Go.Proofs.YtgfknljhogfeaaaW.PrintLast Go.Proofs.YtgfknljhogfeaaaW.PrintMore
attribute [local go_sem] max2_int min2_int max_two min_two max_three min_three max_four min_four
set_option linter.unusedVariables false
set_option linter.unusedSimpArgs false
def impl_SightsOf.f (k:Nat) (l0_0:List (S68)) (l0_1:List (List Int)) (a1:Int):Option ((List (S61)) × Int):=(impl_ValidCode.f l0_0 l0_1).bind fun t102=>(if t102=true then ((impl_size_Word.f l0_1).bind fun t103=>((impl_within.f a1 0 (wrap64 (t103 - 1))).bind fun t104=>(if t104=true then (if 0≤a1 then (if a1 < (l0_1.length:Int) then ((impl_Code_sights.f k l0_0 l0_1 (rd_L2 l0_1 a1)).bind fun t106=>(some (t106,0))) else (none)) else (none)) else (some (([]:List (S61)),2))))) else (some (([]:List (S61)),1)))
def impl_SightsOf.T5:Bool × List (List Nat × List Nat):=(true,[([],[]),([],[]),([1],[1]),([],[]),([2,3],[2,3]),([4],[4]),([0,5],[0,5]),([6,6,0,1,2,3,4,5,6],[6]),([7,0,1,2,3,4,5,6,7],[])])
def impl_SightsOf.B5:List Nat:=[0,0,2,0,14,30,63,127,255]
theorem impl_SightsOf.tab5:rtab .any (opsOf Try.f11 5)=impl_SightsOf.T5:=by kernel_rfl
theorem impl_SightsOf.bits5:waitsOk impl_SightsOf.T5.2 impl_SightsOf.B5=true:=by kernel_rfl
set_option maxHeartbeats 8000000 in
set_option maxRecDepth 100000 in
theorem impl_SightsOf.calls (k:Nat) (A0_0:Option Addr) (c0_0:Nat) (l0_0:List (S68)) (A0_1:Option Addr) (c0_1:Nat) (l0_1:List (List Int)) (a1:Int) (r1:List (S61)) (r2:Int) (w:World) (hr0_0:Kd.C k68 w A0_0 l0_0.length l0_0) (hc0_0:l0_0.length≤c0_0) (hr0_1:Kd.C (Kd.slice 5 (Kd.int .u8)) w A0_1 l0_1.length l0_1) (hc0_1:l0_1.length≤c0_1) (h:impl_SightsOf.f k l0_0 l0_1 a1=some (r1,r2)) :
  Calls Try.prog 11 #[.agg #[.slice A0_0 l0_0.length c0_0,.slice A0_1 l0_1.length c0_1],.int .i64 a1] w fun e w'=>∃ v0_:Value,e=.returned (.tuple #[v0_,.int .i64 r2])∧Kd.R k61 61 w' w.heap.size (fun _=>True) v0_ r1∧Below w.heap.size w w':=by
 have hu33:=Try.underlying33;have HR0_0:=am hr0_0;have HC0_0:=am hc0_0;clear hr0_0 hc0_0;have HR0_1:=am hr0_1;have HC0_1:=am hc0_1;clear hr0_1 hc0_1;have HB:=am (Below.refl w.heap.size w);have H:((impl_ValidCode.f l0_0 l0_1).bind fun t102=>(if t102=true then ((impl_size_Word.f l0_1).bind fun t103=>((impl_within.f a1 0 (wrap64 (t103 - 1))).bind fun t104=>(if t104=true then (if 0≤a1 then (if a1 < (l0_1.length:Int) then ((impl_Code_sights.f k l0_0 l0_1 (rd_L2 l0_1 a1)).bind fun t106=>(some (t106,0))) else (none)) else (none)) else (some (([]:List (S61)),2))))) else (some (([]:List (S61)),1))))=some (r1,r2):=h;clear h;replace H:=Option.bind_eq_some_iff.mp H;obtain ⟨t102,A30,H⟩:=H;replace H:(if t102=true then ((impl_size_Word.f l0_1).bind fun t103=>((impl_within.f a1 0 (wrap64 (t103 - 1))).bind fun t104=>(if t104=true then (if 0≤a1 then (if a1 < (l0_1.length:Int) then ((impl_Code_sights.f k l0_0 l0_1 (rd_L2 l0_1 a1)).bind fun t106=>(some (t106,0))) else (none)) else (none)) else (some (([]:List (S61)),2))))) else (some (([]:List (S61)),1)))=some (r1,r2):=H;have A3:=am A30;clear A30
 by_cases c4:t102=true
 ·subst c4
  have H1:((impl_size_Word.f l0_1).bind fun t103=>((impl_within.f a1 0 (wrap64 (t103 - 1))).bind fun t104=>(if t104=true then (if 0≤a1 then (if a1 < (l0_1.length:Int) then ((impl_Code_sights.f k l0_0 l0_1 (rd_L2 l0_1 a1)).bind fun t106=>(some (t106,0))) else (none)) else (none)) else (some (([]:List (S61)),2)))))=some (r1,r2):=by rw [if_pos rfl] at H;exact H
  clear H;have H:=H1;clear H1;replace H:=Option.bind_eq_some_iff.mp H;obtain ⟨t103,A50,H⟩:=H;replace H:((impl_within.f a1 0 (wrap64 (t103 - 1))).bind fun t104=>(if t104=true then (if 0≤a1 then (if a1 < (l0_1.length:Int) then ((impl_Code_sights.f k l0_0 l0_1 (rd_L2 l0_1 a1)).bind fun t106=>(some (t106,0))) else (none)) else (none)) else (some (([]:List (S61)),2))))=some (r1,r2):=H;have A5:=am A50;clear A50;replace H:=Option.bind_eq_some_iff.mp H;obtain ⟨t104,A60,H⟩:=H;replace H:(if t104=true then (if 0≤a1 then (if a1 < (l0_1.length:Int) then ((impl_Code_sights.f k l0_0 l0_1 (rd_L2 l0_1 a1)).bind fun t106=>(some (t106,0))) else (none)) else (none)) else (some (([]:List (S61)),2)))=some (r1,r2):=H;have A6:=am A60;clear A60
  by_cases c7:t104=true
  ·subst c7
   have H1:(if 0≤a1 then (if a1 < (l0_1.length:Int) then ((impl_Code_sights.f k l0_0 l0_1 (rd_L2 l0_1 a1)).bind fun t106=>(some (t106,0))) else (none)) else (none))=some (r1,r2):=by rw [if_pos rfl] at H;exact H
   clear H;have H:=H1;clear H1
   by_cases c8:0≤a1
   ·rw [if_pos c8] at H;have c8b0:decide (0≤a1)=true:=decide_eq_true c8;clear c8
    by_cases c9:a1 < (l0_1.length:Int)
    ·rw [if_pos c9] at H;have c9b0:decide (a1 < (l0_1.length:Int))=true:=decide_eq_true c9;clear c9;replace H:=Option.bind_eq_some_iff.mp H;obtain ⟨t106,A100,H⟩:=H;replace H:(some (t106,0))=some (r1,r2):=H;have A10:=am A100;clear A100;simp only [Option.some.injEq,Prod.mk.injEq] at H;obtain ⟨rfl,rfl⟩:=H
     go_enter Try.func11,Try.ntmps11
     try go_wp2_with (first|((with_reducible refine gate_dst (N:=2) rfl ?_);refine box_event ?hg (N:=2) ?hd (cs:=#[.slice A0_0 l0_0.length c0_0,.slice A0_1 l0_1.length c0_1]) (t:=33) ?hr ?_;(case hd=>rfl);(case hg=>rfl);(case hr=>exact zq15);intro gb101 hg w11 hbox hb;have n0_:=am (below_step zq2 hb);have n1_:=am (hbox);have n2_:=am ((by rw [hg];exact (below_size zq2):w.heap.size≤gb101));have n3_:=am ((by rw [hg];exact (below_size zq2):w.heap.size≤gb101));clear HB;have HB:=n0_;have BK101:=n1_;have GW101:=n2_;have GE101:=n3_;clear n0_ n1_ n2_ n3_;clear hb hbox hg;have hcz12_0:w11.cell? ⟨gb101,0,none⟩=some (.slice A0_0 l0_0.length c0_0):=(blk_cell BK101.out 0).trans rfl;have hcz12_1:w11.cell? ⟨gb101,1,none⟩=some (.slice A0_1 l0_1.length c0_1):=(blk_cell BK101.out 1).trans rfl;have hfz12_0:=blk_frozen BK101.out 0;have hfz12_1:=blk_frozen BK101.out 1)|((with_reducible refine gate_callee (f:=30) rfl ?_);refine goesL_ (some 8) rfl rfl Try.func30 zq16 rfl #[.agg #[.slice A0_0 l0_0.length c0_0,.slice A0_1 l0_1.length c0_1]] rfl zq0 ?_;(with_reducible refine (impl_ValidCode.calls _ _ l0_0 _ _ l0_1 true _ ?side1 ?side2 ?side3 ?side4 A3.out).mono ?_);(case side1=>exact zq6);(case side2=>exact HC0_0.out);(case side3=>exact zq7);(case side4=>exact HC0_1.out);rintro e w13 ⟨rfl,hb⟩;refine ⟨_,rfl,?_⟩;have n0_:=am (blk_below (g:=gb101) (o:=.cells #[.slice A0_0 l0_0.length c0_0,.slice A0_1 l0_1.length c0_1] 33 (0,0)) zq4 hb);have n1_:=am (below_step zq1 hb);clear BK101;clear HB;have BK101:=n0_;have HB:=n1_;clear n0_ n1_;(try clear hb);(try clear hb2);(try clear hk);(try clear hi);have hcz14_0:w13.cell? ⟨gb101,0,none⟩=some (.slice A0_0 l0_0.length c0_0):=(blk_cell BK101.out 0).trans rfl;have hcz14_1:w13.cell? ⟨gb101,1,none⟩=some (.slice A0_1 l0_1.length c0_1):=(blk_cell BK101.out 1).trans rfl;have hfz14_0:=blk_frozen BK101.out 0;have hfz14_1:=blk_frozen BK101.out 1)|((with_reducible refine gate_callee (f:=46) rfl ?_);refine goesL_ (some 14) rfl rfl Try.func46 zq16 rfl #[.slice A0_1 l0_1.length c0_1] rfl zq0 ?_;(with_reducible refine (impl_size_Word.calls _ _ l0_1 t103 _ ?side1 ?side2 A5.out).mono ?_);(case side1=>exact zq7);(case side2=>exact HC0_1.out);rintro e w' ⟨rfl,⟨nd,rfl⟩⟩;refine ⟨_,rfl,?_⟩)|((with_reducible refine gate_callee (f:=45) rfl ?_);refine goesL_ (some 16) rfl rfl Try.func45 zq16 rfl #[.int .i64 a1,.int .i64 0,.int .i64 (wrap64 (t103 - 1))] rfl zq0 ?_;(with_reducible refine (impl_within.calls a1 0 (wrap64 (t103 - 1)) true _ A6.out).mono ?_);rintro e w' ⟨rfl,⟨nd,rfl⟩⟩;refine ⟨_,rfl,?_⟩))
     (try (rw [drewN_self w13];generalize hq_:World.drewN w13 _=w13;have n0_:Aside0 (w13.heap[gb101]?=some (.cells #[.slice A0_0 l0_0.length c0_0,.slice A0_1 l0_1.length c0_1] 33 (0,0))):=⟨by rw [← hq_];exact zq4⟩;have n1_:Aside0 (Below w.heap.size w w13):=⟨by rw [← hq_];exact zq1⟩;clear BK101 HB hq_;have BK101:=n0_;have HB:=n1_;clear n0_ n1_));have n0_:=am (blk_drew BK101.out);have n1_:=am (below_drew1 HB.out);clear BK101;clear HB;have BK101:=n0_;have HB:=n1_;clear n0_ n1_;have p105:0≤(a1:Int):=of_decide_eq_true zq9;have q105:a1 < (l0_1.length:Int):=of_decide_eq_true zq9;obtain ⟨ad105,A105_0,c105_0,e105,hx105_0,hl105_0,hi105_0⟩:=at_L2 HR0_1.out a1 p105 q105;have hw105_0:=hx105_0;cases e105;replace hx105_0:=(HB.out.cell (World.block_lt_of_cell? w _ hx105_0)).trans hx105_0;have HR105_0:=am hi105_0;have HC105_0:=am hl105_0;clear hi105_0 hl105_0;replace p105:=eq_true p105;replace q105:=eq_true q105;refine start_ (n:=9) (S:=fun w'=>w'.cell? ⟨gb101,0,none⟩=some (.slice A0_0 l0_0.length c0_0)∧w'.cell? ⟨gb101,1,none⟩=some (.slice (some ad105) l0_1.length c0_1)∧w'.cell? (ad105.add (a1).toNat)=some (.slice A105_0 (rd_L2 l0_1 a1).length c105_0)) (ds:=[]) #[false,false,false,false,false,false,false,false,false] zq16 rfl rfl ⟨(blk_cell BK101.out 0).trans rfl,(blk_cell BK101.out 1).trans rfl,((HB.out.cell (World.block_lt_of_cell? w _ hw105_0)).trans hw105_0)⟩ (fun hHeld=>?_);refine with_tabW impl_SightsOf.tab5 impl_SightsOf.bits5 (fun HT_ HW_=>?_);generalize w13.drew=w15 at BK101 HB HR105_0 hx105_0 hHeld ⊢;refine pure_ (i:=1) (N:=some 19) (v:=?_) (a':=?_) #[false,true,false,false,false,false,false,false,false] rfl rfl (any_of HT_.out zq16) (fun _ _ _ h=>h) (Or.inl ⟨by rfl,?_⟩) ?_ ?_;rotate_left
     ·intro w';go_simp;with_reducible rfl
     rotate_left
     ·simp only [Act.put,List.setIfInBounds_toArray,List.set_cons_zero,List.set_cons_succ,i64_w,i32_w];rfl
     refine pure_ (i:=3) (N:=some 21) (v:=?_) (a':=?_) #[false,true,false,true,false,false,false,false,false] rfl rfl (any_of HT_.out zq16) (fun _ _ _ h=>h) (Or.inl ⟨by rfl,?_⟩) ?_ ?_;rotate_left
     ·intro w';go_simp;with_reducible rfl
     rotate_left
     ·simp only [Act.put,List.setIfInBounds_toArray,List.set_cons_zero,List.set_cons_succ,i64_w,i32_w];rfl
     refine take_ (i:=0) (N:=some 18) (v:=?_) (a':=?_) #[true,true,false,true,false,false,false,false,false] rfl rfl (take_ofW HT_.out HW_.out zq16) (fun _ _ _ h=>h) (Or.inl ⟨by rfl,?_⟩) hHeld ?_ ?_;rotate_left
     ·rintro w' ⟨s0,s1,s2⟩
      go_simp;with_reducible rfl
     rotate_left
     ·simp only [Act.put,List.setIfInBounds_toArray,List.set_cons_zero,List.set_cons_succ,i64_w,i32_w];rfl
     refine take_ (i:=2) (N:=some 20) (v:=?_) (a':=?_) #[true,true,true,true,false,false,false,false,false] rfl rfl (take_ofW HT_.out HW_.out zq16) (fun _ _ _ h=>h) (Or.inl ⟨by rfl,?_⟩) hHeld ?_ ?_;rotate_left
     ·rintro w' ⟨s0,s1,s2⟩
      go_simp;with_reducible rfl
     rotate_left
     ·simp only [Act.put,List.setIfInBounds_toArray,List.set_cons_zero,List.set_cons_succ,i64_w,i32_w];rfl
     refine pure_ (i:=4) (N:=some 22) (v:=?_) (a':=?_) #[true,true,true,true,true,false,false,false,false] rfl rfl (any_of HT_.out zq16) (fun _ _ _ h=>h) (Or.inl ⟨by rfl,?_⟩) ?_ ?_;rotate_left
     ·intro w';go_simp;with_reducible rfl
     rotate_left
     ·simp only [Act.put,List.setIfInBounds_toArray,List.set_cons_zero,List.set_cons_succ,i64_w,i32_w];rfl
     refine take_ (i:=5) (N:=some 23) (v:=?_) (a':=?_) #[true,true,true,true,true,true,false,false,false] rfl rfl (take_ofW HT_.out HW_.out zq16) (fun _ _ _ h=>h) (Or.inl ⟨by rfl,?_⟩) hHeld ?_ ?_;rotate_left
     ·rintro w' ⟨s0,s1,s2⟩
      go_simp;with_reducible rfl
     rotate_left
     ·simp only [Act.put,List.setIfInBounds_toArray,List.set_cons_zero,List.set_cons_succ,i64_w,i32_w];rfl
     refine one_ (i:=6) (N:=some 24) #[true,true,true,true,true,true,true,false,false] rfl rfl (one_of HT_.out zq16) (by decide) (fun K hK=>?_);refine goes_ Try.func47 zq16 rfl #[.agg #[.slice A0_0 l0_0.length c0_0,.slice (some ad105) l0_1.length c0_1],.slice A105_0 (rd_L2 l0_1 a1).length c105_0] (by rfl) rfl rfl zq0 ?_
     with_reducible refine (impl_Code_sights.calls k _ _ l0_0 _ _ l0_1 _ _ (rd_L2 l0_1 a1) t106 _ ?side1 ?side2 ?side3 ?side4 ?side5 ?side6 A10.out).mono ?_
     (case side1=>exact zq6);(case side2=>exact HC0_0.out);(case side3=>exact zq7);(case side4=>exact HC0_1.out);(case side5=>exact zq53);(case side6=>exact HC105_0.out)
     rintro e w16 ⟨v107,rfl,ho0,hb⟩
     refine ⟨_,rfl,?_⟩;have n0_:=am (Kd.R_lower ho0 (below_size zq1));have n1_:=am (blk_below (g:=gb101) (o:=.cells #[.slice A0_0 l0_0.length c0_0,.slice (some ad105) l0_1.length c0_1] 33 (0,0)) zq4 hb);have n2_:=am (below_step zq1 hb);clear BK101;clear HB;have HO108:=n0_;have BK101:=n1_;have HB:=n2_;clear n0_ n1_ n2_;(try clear hb);(try clear hb2);(try clear hk);(try clear hi);(try clear ho0);refine hK.out _ _ ⟨(blk_cell BK101.out 0).trans rfl,(blk_cell BK101.out 1).trans rfl,((HB.out.cell (World.block_lt_of_cell? w _ hw105_0)).trans hw105_0)⟩ (fun hHeld=>?_);clear hK K;refine norm_ (a':=?_) ?_ ?_;rotate_left
     ·show Act.put _ (some 24) _=_
      simp only [Act.put,List.setIfInBounds_toArray,List.set_cons_zero,List.set_cons_succ,i64_w,i32_w];rfl
     refine pure_ (i:=7) (N:=some 4) (v:=?_) (a':=?_) #[true,true,true,true,true,true,true,true,false] rfl rfl (any_of HT_.out zq16) (fun _ _ _ h=>h) (Or.inl ⟨by rfl,?_⟩) ?_ ?_;rotate_left
     ·intro w';go_simp;with_reducible rfl
     rotate_left
     ·simp only [Act.put,List.setIfInBounds_toArray,List.set_cons_zero,List.set_cons_succ,i64_w,i32_w];rfl
     refine pure_ (i:=8) (N:=some 5) (v:=?_) (a':=?_) #[true,true,true,true,true,true,true,true,true] rfl rfl (any_of HT_.out zq16) (fun _ _ _ h=>h) (Or.inl ⟨by rfl,?_⟩) ?_ ?_;rotate_left
     ·intro w';go_simp;with_reducible rfl
     rotate_left
     ·simp only [Act.put,List.setIfInBounds_toArray,List.set_cons_zero,List.set_cons_succ,i64_w,i32_w];rfl
     refine done_ (done_of HT_.out zq16) ?_;(try go_wp2)
     go_ret2
     exact ⟨_,by first|rfl|(simp [errW_none,errW_some,IntKind.wrap_i64,wrap64];done)|(simp [errW_none,errW_some] <;> rfl)|(simp [*,errW_none,errW_some] <;> rfl),by (with_reducible repeat (first|apply Kd.R_alloc|apply Kd.R_drewN|apply Kd.R_drew));exact HO108.out,by repeat (first|(with_reducible first|exact HB.out|apply below_alloc|apply pw_below_drewN|apply below_drew1|refine below_set ?_ GE101.out)|exact HB.out)⟩
    ·rw [if_neg c9] at H;exact absurd H (by simp)
   ·rw [if_neg c8] at H;exact absurd H (by simp)
  ·replace c7:=Bool.eq_false_iff.mpr c7;subst c7
   have H1:(some (([]:List (S61)),2))=some (r1,r2):=by rw [if_neg (show ¬ (false=true) by decide)] at H;exact H
   clear H;have H:=H1;clear H1;simp only [Option.some.injEq,Prod.mk.injEq] at H;obtain ⟨rfl,rfl⟩:=H
   go_enter Try.func11,Try.ntmps11
   go_wp2_with (first|((with_reducible refine gate_dst (N:=2) rfl ?_);refine box_event ?hg (N:=2) ?hd (cs:=#[.slice A0_0 l0_0.length c0_0,.slice A0_1 l0_1.length c0_1]) (t:=33) ?hr ?_;(case hd=>rfl);(case hg=>rfl);(case hr=>exact zq15);intro gb101 hg w17 hbox hb;have n0_:=am (below_step zq2 hb);have n1_:=am (hbox);have n2_:=am ((by rw [hg];exact (below_size zq2):w.heap.size≤gb101));have n3_:=am ((by rw [hg];exact (below_size zq2):w.heap.size≤gb101));clear HB;have HB:=n0_;have BK101:=n1_;have GW101:=n2_;have GE101:=n3_;clear n0_ n1_ n2_ n3_;clear hb hbox hg;have hcz18_0:w17.cell? ⟨gb101,0,none⟩=some (.slice A0_0 l0_0.length c0_0):=(blk_cell BK101.out 0).trans rfl;have hcz18_1:w17.cell? ⟨gb101,1,none⟩=some (.slice A0_1 l0_1.length c0_1):=(blk_cell BK101.out 1).trans rfl;have hfz18_0:=blk_frozen BK101.out 0;have hfz18_1:=blk_frozen BK101.out 1)|((with_reducible refine gate_callee (f:=30) rfl ?_);refine goesL_ (some 8) rfl rfl Try.func30 zq16 rfl #[.agg #[.slice A0_0 l0_0.length c0_0,.slice A0_1 l0_1.length c0_1]] rfl zq0 ?_;(with_reducible refine (impl_ValidCode.calls _ _ l0_0 _ _ l0_1 true _ ?side1 ?side2 ?side3 ?side4 A3.out).mono ?_);(case side1=>exact zq6);(case side2=>exact HC0_0.out);(case side3=>exact zq7);(case side4=>exact HC0_1.out);rintro e w19 ⟨rfl,hb⟩;refine ⟨_,rfl,?_⟩;have n0_:=am (blk_below (g:=gb101) (o:=.cells #[.slice A0_0 l0_0.length c0_0,.slice A0_1 l0_1.length c0_1] 33 (0,0)) zq4 hb);have n1_:=am (below_step zq1 hb);clear BK101;clear HB;have BK101:=n0_;have HB:=n1_;clear n0_ n1_;(try clear hb);(try clear hb2);(try clear hk);(try clear hi);have hcz20_0:w19.cell? ⟨gb101,0,none⟩=some (.slice A0_0 l0_0.length c0_0):=(blk_cell BK101.out 0).trans rfl;have hcz20_1:w19.cell? ⟨gb101,1,none⟩=some (.slice A0_1 l0_1.length c0_1):=(blk_cell BK101.out 1).trans rfl;have hfz20_0:=blk_frozen BK101.out 0;have hfz20_1:=blk_frozen BK101.out 1)|((with_reducible refine gate_callee (f:=46) rfl ?_);refine goesL_ (some 14) rfl rfl Try.func46 zq16 rfl #[.slice A0_1 l0_1.length c0_1] rfl zq0 ?_;(with_reducible refine (impl_size_Word.calls _ _ l0_1 t103 _ ?side1 ?side2 A5.out).mono ?_);(case side1=>exact zq7);(case side2=>exact HC0_1.out);rintro e w' ⟨rfl,⟨nd,rfl⟩⟩;refine ⟨_,rfl,?_⟩)|((with_reducible refine gate_callee (f:=45) rfl ?_);refine goesL_ (some 16) rfl rfl Try.func45 zq16 rfl #[.int .i64 a1,.int .i64 0,.int .i64 (wrap64 (t103 - 1))] rfl zq0 ?_;(with_reducible refine (impl_within.calls a1 0 (wrap64 (t103 - 1)) false _ A6.out).mono ?_);rintro e w' ⟨rfl,⟨nd,rfl⟩⟩;refine ⟨_,rfl,?_⟩))
   go_ret2
   exact ⟨_,by first|rfl|(simp [errW_none,errW_some,IntKind.wrap_i64,wrap64];done)|(simp [errW_none,errW_some] <;> rfl)|(simp [*,errW_none,errW_some] <;> rfl),by first|exact Kd.R_nil _ _ _ _ _|exact Kd.N_nil _ _ _ _ _|exact Kd.V_nil _ _ _ _ _|exact Kd.Q_nil _ _ _ _ _|exact Kd.S_nil _ _ _ _ _,by repeat (first|(with_reducible first|exact HB.out|apply below_alloc|apply pw_below_drewN|apply below_drew1|refine below_set ?_ GE101.out)|exact HB.out)⟩
 ·replace c4:=Bool.eq_false_iff.mpr c4;subst c4
  have H1:(some (([]:List (S61)),1))=some (r1,r2):=by rw [if_neg (show ¬ (false=true) by decide)] at H;exact H
  clear H;have H:=H1;clear H1;simp only [Option.some.injEq,Prod.mk.injEq] at H;obtain ⟨rfl,rfl⟩:=H
  go_enter Try.func11,Try.ntmps11
  go_wp2_with (first|((with_reducible refine gate_dst (N:=2) rfl ?_);refine box_event ?hg (N:=2) ?hd (cs:=#[.slice A0_0 l0_0.length c0_0,.slice A0_1 l0_1.length c0_1]) (t:=33) ?hr ?_;(case hd=>rfl);(case hg=>rfl);(case hr=>exact zq15);intro gb101 hg w21 hbox hb;have n0_:=am (below_step zq2 hb);have n1_:=am (hbox);have n2_:=am ((by rw [hg];exact (below_size zq2):w.heap.size≤gb101));have n3_:=am ((by rw [hg];exact (below_size zq2):w.heap.size≤gb101));clear HB;have HB:=n0_;have BK101:=n1_;have GW101:=n2_;have GE101:=n3_;clear n0_ n1_ n2_ n3_;clear hb hbox hg;have hcz22_0:w21.cell? ⟨gb101,0,none⟩=some (.slice A0_0 l0_0.length c0_0):=(blk_cell BK101.out 0).trans rfl;have hcz22_1:w21.cell? ⟨gb101,1,none⟩=some (.slice A0_1 l0_1.length c0_1):=(blk_cell BK101.out 1).trans rfl;have hfz22_0:=blk_frozen BK101.out 0;have hfz22_1:=blk_frozen BK101.out 1)|((with_reducible refine gate_callee (f:=30) rfl ?_);refine goesL_ (some 8) rfl rfl Try.func30 zq16 rfl #[.agg #[.slice A0_0 l0_0.length c0_0,.slice A0_1 l0_1.length c0_1]] rfl zq0 ?_;(with_reducible refine (impl_ValidCode.calls _ _ l0_0 _ _ l0_1 false _ ?side1 ?side2 ?side3 ?side4 A3.out).mono ?_);(case side1=>exact zq6);(case side2=>exact HC0_0.out);(case side3=>exact zq7);(case side4=>exact HC0_1.out);rintro e w23 ⟨rfl,hb⟩;refine ⟨_,rfl,?_⟩;have n0_:=am (blk_below (g:=gb101) (o:=.cells #[.slice A0_0 l0_0.length c0_0,.slice A0_1 l0_1.length c0_1] 33 (0,0)) zq4 hb);have n1_:=am (below_step zq1 hb);clear BK101;clear HB;have BK101:=n0_;have HB:=n1_;clear n0_ n1_;(try clear hb);(try clear hb2);(try clear hk);(try clear hi)))
  go_ret2
  exact ⟨_,by first|rfl|(simp [errW_none,errW_some,IntKind.wrap_i64,wrap64];done)|(simp [errW_none,errW_some] <;> rfl)|(simp [*,errW_none,errW_some] <;> rfl),by first|exact Kd.R_nil _ _ _ _ _|exact Kd.N_nil _ _ _ _ _|exact Kd.V_nil _ _ _ _ _|exact Kd.Q_nil _ _ _ _ _|exact Kd.S_nil _ _ _ _ _,by repeat (first|(with_reducible first|exact HB.out|apply below_alloc|apply pw_below_drewN|apply below_drew1|refine below_set ?_ GE101.out)|exact HB.out)⟩
end Go.Proofs.Ytgfknljhogfeaaa.G
end

section
namespace Go.Proofs.Ytgfknljhogfeaaa.G
open Go.RowKit Go.Proofs.YtgfknljhogfeaaaW.PrintWords Go.Proofs.YtgfknljhogfeaaaW.PrintLast Go.Proofs.YtgfknljhogfeaaaW.PrintMore
attribute [local go_sem] max2_int min2_int max_two min_two max_three min_three max_four min_four
set_option linter.unusedVariables false
set_option linter.unusedSimpArgs false
def laws_f6big.f (l0:List Int):Option (Bool):=some (decide ((l0.length:Int) > 4096))
set_option maxHeartbeats 8000000 in
set_option maxRecDepth 100000 in
theorem laws_f6big.calls (A0:Option Addr) (c0:Nat) (l0:List Int) (r:Bool) (w:World) (hr0:Kd.C (Kd.int .u8) w A0 l0.length l0) (hc0:l0.length≤c0) (h:laws_f6big.f l0=some r) :
  Calls Try.prog 28 #[.slice A0 l0.length c0] w fun e w'=>e=.returned (.bool r)∧Drawn0 w w':=by
 have HR0:=am hr0;have HC0:=am hc0;clear hr0 hc0;have H:(some (decide ((l0.length:Int) > 4096)))=some r:=h;clear h;obtain rfl:=Option.some.inj H
 go_enter Try.func28,Try.ntmps28
 go_wp2
 go_ret
 exact ⟨by first|rfl|(simp only [IntKind.wrap_i64,wrap64];done)|(simp;done)|(simp [*];done),by repeat (first|exact Drawn0.refl _|apply Drawn0.step)⟩
end Go.Proofs.Ytgfknljhogfeaaa.G
end

section
namespace Go.Proofs.Ytgfknljhogfeaaa.G
open Go.RowKit Go.Proofs.YtgfknljhogfeaaaW.PrintWords Go.Proofs.YtgfknljhogfeaaaW.PrintLast Go.Proofs.YtgfknljhogfeaaaW.PrintMore
attribute [local go_sem] max2_int min2_int max_two min_two max_three min_three max_four min_four
set_option linter.unusedVariables false
set_option linter.unusedSimpArgs false
def spec_l00In.f (a0:Int) (a1:Int) (a2:Int):Option (Bool):=if a0≥a1 then (some (decide (a0≤a2))) else (some false)
set_option maxHeartbeats 8000000 in
set_option maxRecDepth 100000 in
theorem spec_l00In.calls (a0:Int) (a1:Int) (a2:Int) (r:Bool) (w:World) (h:spec_l00In.f a0 a1 a2=some r) :
  Calls Try.prog 41 #[.int .i64 a0,.int .i64 a1,.int .i64 a2] w fun e w'=>e=.returned (.bool r)∧Drawn0 w w':=by
 have H:(if a0≥a1 then (some (decide (a0≤a2))) else (some false))=some r:=h;clear h
 by_cases c4:a0≥a1
 ·rw [if_pos c4] at H;have c4b0:decide (a1≤a0)=true:=decide_eq_true c4;clear c4;obtain rfl:=Option.some.inj H
  go_enter Try.func41,Try.ntmps41
  go_wp2
  go_ret
  exact ⟨by first|rfl|(simp only [IntKind.wrap_i64,wrap64];done)|(simp;done)|(simp [*];done),by repeat (first|exact Drawn0.refl _|apply Drawn0.step)⟩
 ·rw [if_neg c4] at H;have c4b0:decide (a1≤a0)=false:=decide_eq_false c4;clear c4;obtain rfl:=Option.some.inj H
  go_enter Try.func41,Try.ntmps41
  go_wp2
  go_ret
  exact ⟨by first|rfl|(simp only [IntKind.wrap_i64,wrap64];done)|(simp;done)|(simp [*];done),by repeat (first|exact Drawn0.refl _|apply Drawn0.step)⟩
end Go.Proofs.Ytgfknljhogfeaaa.G
end

section
namespace Go.Proofs.Ytgfknljhogfeaaa.G
open Go.RowKit Go.Proofs.YtgfknljhogfeaaaW.PrintWords Go.Proofs.YtgfknljhogfeaaaW.PrintLast Go.Proofs.YtgfknljhogfeaaaW.PrintMore
attribute [local go_sem] max2_int min2_int max_two min_two max_three min_three max_four min_four
set_option linter.unusedVariables false
set_option linter.unusedSimpArgs false
def spec_l05Far.to (l0 l1:List S61):Nat→Nat
 | 0=>0
 | i + 1=>spec_l05Far.to l0 l1 i + difN (arrL61 (rd_T61 l0 (i:Int))) (arrL61 (rd_T61 l1 (i:Int))) 6
theorem spec_l05Far.to_le (l0 l1:List S61):∀ i,spec_l05Far.to l0 l1 i≤6 * i
 | 0=>Nat.le_refl _
 | i + 1=>by
  have h1:=spec_l05Far.to_le l0 l1 i;have h2:=difN_le (arrL61 (rd_T61 l0 (i:Int))) (arrL61 (rd_T61 l1 (i:Int))) 6
  unfold spec_l05Far.to
  omega
def spec_l05Far.f (l0 l1:List S61):Option Int:=if l0.length≤l1.length∧l0.length≤1000000000000 then some (((spec_l05Far.to l0 l1 l0.length:Nat)):Int) else none
set_option maxHeartbeats 4000000 in
theorem spec_l05Far.calls (A0:Option Addr) (c0:Nat) (l0:List (S61)) (A1:Option Addr) (c1:Nat) (l1:List (S61)) (r:Int) (w:World) (hr0:Kd.C k61 w A0 l0.length l0) (hc0:l0.length≤c0) (hr1:Kd.C k61 w A1 l1.length l1) (hc1:l1.length≤c1) (h:spec_l05Far.f l0 l1=some r) :
  Calls Try.prog 53 #[.slice A0 l0.length c0,.slice A1 l1.length c1] w fun e w'=>e=.returned (.int .i64 r)∧Drawn0 w w':=by
 unfold spec_l05Far.f at h
 by_cases hc:l0.length≤l1.length∧l0.length≤1000000000000
 ·rw [if_pos hc] at h;obtain rfl:=Option.some.inj h;obtain ⟨hca,hcb⟩:=hc;clear h;have hl9:l0.length≤9223372036854775807:=hr0.2.1;have hl8:l1.length≤9223372036854775807:=hr1.2.1;have HR0:=am hr0;have HR1:=am hr1;clear hr0 hr1;generalize hn:l0.length=m at *;have Hn:=am hn;clear hn;generalize hn1:l1.length=m1 at *;have Hn1:=am hn1;clear hn1
  go_enter Try.func53,Try.ntmps53
  go_wp2
  go_loopg [5,6] (m + 1) (fun gg s5 s6 wr=>∃ i:Nat,i≤m∧m - i≤gg∧s6=.int .i64 i∧s5=.int .i64 ((spec_l05Far.to l0 l1 i:Nat))∧Drawn0 w wr)
  case atStart=>exact ⟨0,by omega,by omega,rfl,rfl,by repeat (first|exact Drawn0.refl _|apply Drawn0.step)⟩
  case round =>
   obtain ⟨i,hi,hg,rfl,rfl,⟨m2,rfl⟩⟩:=hrel
   by_cases hlt:i < m
   ·have hltz:(i:Int) < (m:Int):=by omega
    have hltz1:(i:Int) < (m1:Int):=by omega
    obtain ⟨ad,e0,hcell⟩:=rowA61 HR0.out hlt;cases e0;obtain ⟨ad1,e1,hcell1⟩:=rowA61 HR1.out (show i < m1 by omega);cases e1;have HCL:=am hcell;have HCL1:=am hcell1;have HT:=am (show spec_l05Far.to l0 l1 (i + 1)=spec_l05Far.to l0 l1 i + difN (arrL61 (rd_T61 l0 (i:Int))) (arrL61 (rd_T61 l1 (i:Int))) 6 from rfl);have HM:=am (spec_l05Far.to_le l0 l1 i);clear hcell hcell1;generalize spec_l05Far.to l0 l1 i=q at *;generalize arrL61 (rd_T61 l0 (i:Int))=x at *;generalize arrL61 (rd_T61 l1 (i:Int))=y at *
    go_wp2
    go_loopg [5,7] 7 (fun gg s5 s7 wr=>∃ j:Nat,j≤6∧6 - j≤gg∧s7=.int .i64 j∧s5=.int .i64 ((q + difN x y j:Nat))∧Drawn0 w wr)
    case atStart=>exact ⟨0,by omega,by omega,rfl,rfl,by repeat (first|exact Drawn0.refl _|apply Drawn0.step)⟩
    case round =>
     obtain ⟨j,hj,hg2,rfl,rfl,⟨m3,rfl⟩⟩:=hrel
     by_cases hlj:j < 6
     ·have hljz:(j:Int) < 6:=by omega
      have c1:=HCL.out j hlj;have c2:=HCL1.out j hlj;have HD:=am (show difN x y (j + 1)=difN x y j + if x.getD j 0=y.getD j 0 then 0 else 1 from rfl);have HL:=am (difN_le x y j);generalize x.getD j 0=c at *;generalize y.getD j 0=d at *
      by_cases he:c=d
      ·have b0:(c == d)=true:=beq_iff_eq.mpr he;have b1:(c != d)=false:=bne_eq_false_iff_eq.mpr he;have HD2:=am (show difN x y (j + 1)=difN x y j by rw [HD.out,if_pos he];rfl);clear he
       go_wp2
       repeat (go_quiet (fail);try go_wp2)
       go_roundg (6 - (j + 1))
       case measure=>omega
       case rel=>exact ⟨j + 1,by omega,by omega,by go_num,by rw [HD2.out],by repeat (first|exact Drawn0.refl _|apply Drawn0.step)⟩
      ·have b0:(c == d)=false:=beq_eq_false_iff_ne.mpr he;have b1:(c != d)=true:=bne_iff_ne.mpr he;have HD2:=am (show difN x y (j + 1)=difN x y j + 1 by rw [HD.out,if_neg he])
       have hb:((q + difN x y j:Nat):Int) + 1≤9223372036854775807:=by have:=HL.out;have:=HM.out;omega
       generalize difN x y j=u at *;clear he
       go_wp2
       repeat (go_quiet (fail);try go_wp2)
       go_roundg (6 - (j + 1))
       case measure=>omega
       case rel=>exact ⟨j + 1,by omega,by omega,by go_num,by rw [HD2.out];first|rfl|go_num|(congr 1;omega),by repeat (first|exact Drawn0.refl _|apply Drawn0.step)⟩
     ·have:j=6:=by omega
      subst this
      go_wp2
      go_roundg (m - (i + 1))
      case measure=>omega
      case rel=>exact ⟨i + 1,by omega,by omega,by go_num,by rw [HT.out],by repeat (first|exact Drawn0.refl _|apply Drawn0.step)⟩
   ·have:i=m:=by omega
    subst this
    go_wp2
    go_ret
    exact ⟨by first|rfl|simp,by repeat (first|exact Drawn0.refl _|apply Drawn0.step)⟩
 ·rw [if_neg hc] at h;cases h
end Go.Proofs.Ytgfknljhogfeaaa.G
end

section
namespace Go.Proofs.Ytgfknljhogfeaaa.G
open Go.RowKit Go.Proofs.YtgfknljhogfeaaaW.PrintWords Go.Proofs.YtgfknljhogfeaaaW.PrintLast Go.Proofs.YtgfknljhogfeaaaW.PrintMore
attribute [local go_sem] max2_int min2_int max_two min_two max_three min_three max_four min_four
set_option linter.unusedVariables false
set_option linter.unusedSimpArgs false
set_option maxHeartbeats 4000000 in
theorem spec_l01Ok.core (p:Addr) (xs:List Int) (hx:xs.length=24) (w:World) (hc:∀ j:Nat,j < 24→w.cell? (p.add j)=some (.int .u8 (xs.getD j 0))) :
  Calls Try.prog 76 #[.pointer (some p)] w fun e w'=>e=.returned (.bool (xs.all fun c=>decide (c≤5)))∧Drawn0 w w':=by
 have HC:=am hc;clear hc
 go_enter Try.func76,Try.ntmps76
 go_wp2
 go_loopg [3] 25 (fun gg s3 wr=>∃ j:Nat,j≤24∧24 - j≤gg∧s3=.int .i64 j∧Aside0 ((xs.take j).all (fun c=>decide (c≤5))=true)∧Drawn0 w wr)
 case atStart=>exact ⟨0,by omega,by omega,rfl,⟨rfl⟩,by repeat (first|exact Drawn0.refl _|apply Drawn0.step)⟩
 case round =>
  obtain ⟨j,hj,hg2,rfl,HJ,⟨m2,rfl⟩⟩:=hrel
  by_cases hlj:j < 24
  ·have hljz:(j:Int) < 24:=by omega
   have c1:=HC.out j hlj;have HD:=am (show xs.getD j 0=xs[j]'(by omega) by rw [List.getD_eq_getElem?_getD,List.getElem?_eq_getElem (show j < xs.length by omega)];rfl);generalize xs.getD j 0=c at *
   by_cases h5:c≤5
   ·have b0:decide (5 < c)=false:=decide_eq_false (by omega);have HJ2:=am (show (xs.take (j + 1)).all (fun c=>decide (c≤5))=true by rw [all_succ (show j < xs.length by omega),HJ.out,← HD.out,decide_eq_true h5];rfl);clear h5
    go_wp2
    go_roundg (24 - (j + 1))
    case measure=>omega
    case rel=>exact ⟨j + 1,by omega,by omega,by go_num,HJ2,by repeat (first|exact Drawn0.refl _|apply Drawn0.step)⟩
   ·have b0:decide (5 < c)=true:=decide_eq_true (by omega)
    have hf:(xs.all fun c=>decide (c≤5))=false:=by
     rw [List.all_eq_false];exact ⟨c,by rw [HD.out];exact List.getElem_mem _,by simpa using h5⟩
    clear h5
    go_wp2
    go_ret
    exact ⟨by first|(rw [hf];done)|(rw [hf];rfl),by repeat (first|exact Drawn0.refl _|apply Drawn0.step)⟩
  ·have:j=24:=by omega
   subst this
   have hf:(xs.all fun c=>decide (c≤5))=true:=by have h_:=HJ.out;rwa [List.take_of_length_le (by omega)] at h_
   go_wp2
   go_ret
   exact ⟨by first|(rw [hf];done)|(rw [hf];rfl),by repeat (first|exact Drawn0.refl _|apply Drawn0.step)⟩
end Go.Proofs.Ytgfknljhogfeaaa.G
end

section
namespace Go.Proofs.Ytgfknljhogfeaaa.G
open Go.RowKit Go.Proofs.YtgfknljhogfeaaaW.PrintWords Go.Proofs.YtgfknljhogfeaaaW.PrintLast Go.Proofs.YtgfknljhogfeaaaW.PrintMore
attribute [local go_sem] max2_int min2_int max_two min_two max_three min_three max_four min_four
set_option linter.unusedVariables false
set_option linter.unusedSimpArgs false
def spec_l05Word.l0:Nat→List Int→Int→Option (Bool)
 | 0,_,_=>none
 | k + 1,x0,x3=>if x3 < (x0.length:Int) then (if 0≤x3 then (if (rd x0 x3)≥37 then (some false) else (spec_l05Word.l0 k x0 (wrap64 (x3 + 1)))) else (none)) else ((spec_l00In.f (x0.length:Int) 1 8).bind fun t102=>(some t102))
def spec_l05Word.f (k:Nat) (l0:List Int):Option (Bool):=spec_l05Word.l0 k l0 0
set_option maxHeartbeats 8000000 in
set_option maxRecDepth 100000 in
theorem spec_l05Word.calls (k:Nat) (A0:Option Addr) (c0:Nat) (l0:List Int) (r:Bool) (w:World) (hr0:Kd.C (Kd.int .u8) w A0 l0.length l0) (hc0:l0.length≤c0) (h:spec_l05Word.f k l0=some r) :
  Calls Try.prog 98 #[.slice A0 l0.length c0] w fun e w'=>e=.returned (.bool r)∧Drawn0 w w':=by
 have HR0:=am hr0;have HC0:=am hc0;clear hr0 hc0;have H:(spec_l05Word.l0 k l0 0)=some r:=h;clear h;have H':=am H;clear H
 go_enter Try.func98,Try.ntmps98
 go_wp2
 go_loopg [3] k (fun kq v3 w'=>∃ (x3_1:Int),v3=.int .i64 x3_1∧Aside0 (spec_l05Word.l0 kq l0 x3_1=some r)∧Aside0 (kq≤k)∧Drawn0 w w')
 case atStart=>exact ⟨(0),zq3,H',⟨Nat.le_refl _⟩,by repeat (first|exact Drawn0.refl _|apply Drawn0.step)⟩
 case round =>
  clear H';obtain ⟨x3_1,rfl,HA,HK1,⟨m1,rfl⟩⟩:=hrel
  cases gk with
  | zero=>exact absurd HA.out (by simp [spec_l05Word.l0])
  | succ k1 =>
   have H:=HA.out;clear HA;simp only [spec_l05Word.l0] at H
   by_cases c2:x3_1 < (l0.length:Int)
   ·rw [if_pos c2] at H;have c2b0:decide (x3_1 < (l0.length:Int))=true:=decide_eq_true c2;clear c2
    by_cases c3:0≤x3_1
    ·rw [if_pos c3] at H;have c3b0:decide (0≤x3_1)=true:=decide_eq_true c3;clear c3
     by_cases c4:(rd l0 x3_1)≥37
     ·rw [if_pos c4] at H;have c4b0:decide (37≤(rd l0 x3_1))=true:=decide_eq_true c4;clear c4;obtain rfl:=Option.some.inj H;have p101:0≤(x3_1:Int):=of_decide_eq_true zq9;have q101:x3_1 < (l0.length:Int):=of_decide_eq_true zq9;obtain ⟨ad101,e101,hx101_0⟩:=Kd.at_int HR0.out x3_1 p101 q101;cases e101;replace p101:=eq_true p101;replace q101:=eq_true q101
      go_wp2
      go_ret
      exact ⟨by first|rfl|(simp only [IntKind.wrap_i64,wrap64];done)|(simp;done)|(simp [*];done),by repeat (first|exact Drawn0.refl _|apply Drawn0.step)⟩
     ·rw [if_neg c4] at H;have c4b0:decide (37≤(rd l0 x3_1))=false:=decide_eq_false c4;clear c4;have H':=am H;clear H;have p101:0≤(x3_1:Int):=of_decide_eq_true zq9;have q101:x3_1 < (l0.length:Int):=of_decide_eq_true zq9;obtain ⟨ad101,e101,hx101_0⟩:=Kd.at_int HR0.out x3_1 p101 q101;cases e101;replace p101:=eq_true p101;replace q101:=eq_true q101
      go_wp2
      go_roundg k1
      case measure=>have:=HK1.out;omega
      case rel=>exact ⟨(wrap64 (x3_1 + 1)),zq3,H',⟨by have:=HK1.out;omega⟩,by repeat (first|exact Drawn0.refl _|apply Drawn0.step)⟩
    ·rw [if_neg c3] at H;exact absurd H (by simp)
   ·rw [if_neg c2] at H;have c2b0:decide (x3_1 < (l0.length:Int))=false:=decide_eq_false c2;clear c2;replace H:=Option.bind_eq_some_iff.mp H;obtain ⟨t102,A50,H⟩:=H;replace H:(some t102)=some r:=H;have A5:=am A50;clear A50;obtain rfl:=Option.some.inj H
    go_wp2_with (first|((with_reducible refine gate_callee (f:=41) rfl ?_);refine goesL_ (some 17) rfl rfl Try.func41 zq16 rfl #[.int .i64 (l0.length:Int),.int .i64 1,.int .i64 8] rfl zq0 ?_;(with_reducible refine (spec_l00In.calls (l0.length:Int) 1 8 t102 _ A5.out).mono ?_);rintro e w' ⟨rfl,⟨nd,rfl⟩⟩;refine ⟨_,rfl,?_⟩))
    go_ret
    exact ⟨by first|rfl|(simp only [IntKind.wrap_i64,wrap64];done)|(simp;done)|(simp [*];done),by repeat (first|exact Drawn0.refl _|apply Drawn0.step)⟩
end Go.Proofs.Ytgfknljhogfeaaa.G
end

section
namespace Go.Proofs.Ytgfknljhogfeaaa.G
open Go.RowKit Go.Proofs.YtgfknljhogfeaaaW.PrintWords Go.Proofs.YtgfknljhogfeaaaW.PrintLast Go.Proofs.YtgfknljhogfeaaaW.PrintMore
attribute [local go_sem] max2_int min2_int max_two min_two max_three min_three max_four min_four
set_option linter.unusedVariables false
set_option linter.unusedSimpArgs false
def spec_l05Words.l0:Nat→List (List Int)→Int→Option (Bool)
 | 0,_,_=>none
 | k + 1,x0,x3=>if x3 < (x0.length:Int) then (if 0≤x3 then ((spec_l05Word.f k (rd_L2 x0 x3)).bind fun t102=>(if t102=true then (if 0 < (x0.length:Int) then (if ((rd_L2 x0 x3).length:Int)=((rd_L2 x0 0).length:Int) then (spec_l05Words.l0 k x0 (wrap64 (x3 + 1))) else (some false)) else (none)) else (some false))) else (none)) else (some true)
def spec_l05Words.f (k:Nat) (l0:List (List Int)):Option (Bool):=spec_l05Words.l0 k l0 0
set_option maxHeartbeats 8000000 in
set_option maxRecDepth 100000 in
theorem spec_l05Words.callsN (k:Nat) (A0:Option Addr) (c0:Nat) (l0:List (List Int)) (r:Bool) (w:World) (hr0:Kd.C (Kd.slice 5 (Kd.int .u8)) w A0 l0.length l0) (h:spec_l05Words.f k l0=some r) :
  Calls Try.prog 75 #[.slice A0 l0.length c0] w fun e w'=>e=.returned (.bool r)∧Drawn0 w w':=by
 have HR0:=am hr0;clear hr0;have H:(spec_l05Words.l0 k l0 0)=some r:=h;clear h;have H':=am H;clear H
 go_enter Try.func75,Try.ntmps75
 go_wp2
 repeat (go_quiet (fail);try go_wp2)
 go_loopg [3] k (fun kq v3 w'=>∃ (x3_1:Int),v3=.int .i64 x3_1∧Aside0 (spec_l05Words.l0 kq l0 x3_1=some r)∧Aside0 (kq≤k)∧Drawn0 w w')
 case atStart=>exact ⟨(0),zq3,H',⟨Nat.le_refl _⟩,by repeat (first|exact Drawn0.refl _|apply Drawn0.step)⟩
 case round =>
  clear H';obtain ⟨x3_1,rfl,HA,HK1,⟨m1,rfl⟩⟩:=hrel
  cases gk with
  | zero=>exact absurd HA.out (by simp [spec_l05Words.l0])
  | succ k1 =>
   have H:=HA.out;clear HA;simp only [spec_l05Words.l0] at H
   by_cases c2:x3_1 < (l0.length:Int)
   ·rw [if_pos c2] at H;have c2b0:decide (x3_1 < (l0.length:Int))=true:=decide_eq_true c2;clear c2
    by_cases c3:0≤x3_1
    ·rw [if_pos c3] at H;have c3b0:decide (0≤x3_1)=true:=decide_eq_true c3;clear c3;replace H:=Option.bind_eq_some_iff.mp H;obtain ⟨t102,A40,H⟩:=H;replace H:(if t102=true then (if 0 < (l0.length:Int) then (if ((rd_L2 l0 x3_1).length:Int)=((rd_L2 l0 0).length:Int) then (spec_l05Words.l0 k1 l0 (wrap64 (x3_1 + 1))) else (some false)) else (none)) else (some false))=some r:=H;have A4:=am A40;clear A40
     by_cases c5:t102=true
     ·subst c5
      have H1:(if 0 < (l0.length:Int) then (if ((rd_L2 l0 x3_1).length:Int)=((rd_L2 l0 0).length:Int) then (spec_l05Words.l0 k1 l0 (wrap64 (x3_1 + 1))) else (some false)) else (none))=some r:=by rw [if_pos rfl] at H;exact H
      clear H;have H:=H1;clear H1
      by_cases c6:0 < (l0.length:Int)
      ·rw [if_pos c6] at H;have c6b0:decide (0 < (l0.length:Int))=true:=decide_eq_true c6;have c6b1:decide (0 < l0.length)=true:=decide_eq_true (by omega);clear c6
       by_cases c7:((rd_L2 l0 x3_1).length:Int)=((rd_L2 l0 0).length:Int)
       ·rw [if_pos c7] at H;have c7b0:(((rd_L2 l0 x3_1).length:Int) == ((rd_L2 l0 0).length:Int))=true:=beq_iff_eq.mpr c7;have c7b1:(((rd_L2 l0 x3_1).length:Int) != ((rd_L2 l0 0).length:Int))=false:=bne_eq_false_iff_eq.mpr c7
        have c7b2:((rd_L2 l0 x3_1).length == (rd_L2 l0 0).length)=true:=by first|simpa using c7|(simp at c7 ⊢;omega)
        clear c7;have H':=am H;clear H;have p101:0≤(x3_1:Int):=of_decide_eq_true zq9;have q101:x3_1 < (l0.length:Int):=of_decide_eq_true zq9;obtain ⟨ad101,A101_0,c101_0,e101,hx101_0,hl101_0,hi101_0⟩:=at_L2 HR0.out x3_1 p101 q101;cases e101;have HR101_0:=am hi101_0;have HC101_0:=am hl101_0;clear hi101_0 hl101_0;replace p101:=eq_true p101;replace q101:=eq_true q101
        go_wp2_with (first|(go_at_call 98;(with_reducible refine (spec_l05Word.calls k1 _ _ (rd_L2 l0 x3_1) true _ ?side1 ?side2 A4.out).mono ?_);(case side1=>exact zq23);(case side2=>exact HC101_0.out);rintro e w' ⟨rfl,⟨nd,rfl⟩⟩;(try first|exact ⟨rfl,_,World.drewN_drewN _ _ _⟩|exact ⟨rfl,_,Eq.trans (World.drewN_drewN _ _ _) (congrArg (World.drewN _) (Nat.add_assoc _ _ _))⟩);have p103:0≤(x3_1:Int):=of_decide_eq_true zq9;have q103:x3_1 < (l0.length:Int):=of_decide_eq_true zq9;obtain ⟨ad103,A103_0,c103_0,e103,hx103_0,hl103_0,hi103_0⟩:=at_L2 HR0.out x3_1 p103 q103;obtain rfl:ad101=ad103:=(by injection e103);have HR103_0:=am hi103_0;have HC103_0:=am hl103_0;clear hi103_0 hl103_0;replace p103:=eq_true p103;replace q103:=eq_true q103;have ea_:=Option.some.inj (hx101_0.symm.trans hx103_0);injection ea_ with ea_ en_ ec_;subst ea_;subst ec_;clear en_;have p104:0≤(0:Int):=(by omega);have q104:0 < (l0.length:Int):=of_decide_eq_true zq9;obtain ⟨ad104,A104_0,c104_0,e104,hx104_0,hl104_0,hi104_0⟩:=at_L2 HR0.out 0 p104 q104;obtain rfl:ad101=ad104:=(by injection e104);have qi104:(0 < l0.length)=True:=eq_true (by omega);(try rw [show ((0:Int)).toNat=0 from rfl] at hx104_0);(try rw [Addr.add_zero'] at hx104_0);have HR104_0:=am hi104_0;have HC104_0:=am hl104_0;clear hi104_0 hl104_0;replace p104:=eq_true p104;replace q104:=eq_true q104))
        repeat (go_quiet (first|(go_at_call 98;(with_reducible refine (spec_l05Word.calls k1 _ _ (rd_L2 l0 x3_1) true _ ?side1 ?side2 A4.out).mono ?_);(case side1=>exact zq23);(case side2=>exact HC101_0.out);rintro e w' ⟨rfl,⟨nd,rfl⟩⟩;(try first|exact ⟨rfl,_,World.drewN_drewN _ _ _⟩|exact ⟨rfl,_,Eq.trans (World.drewN_drewN _ _ _) (congrArg (World.drewN _) (Nat.add_assoc _ _ _))⟩);have p103:0≤(x3_1:Int):=of_decide_eq_true zq9;have q103:x3_1 < (l0.length:Int):=of_decide_eq_true zq9;obtain ⟨ad103,A103_0,c103_0,e103,hx103_0,hl103_0,hi103_0⟩:=at_L2 HR0.out x3_1 p103 q103;obtain rfl:ad101=ad103:=(by injection e103);have HR103_0:=am hi103_0;have HC103_0:=am hl103_0;clear hi103_0 hl103_0;replace p103:=eq_true p103;replace q103:=eq_true q103;have ea_:=Option.some.inj (hx101_0.symm.trans hx103_0);injection ea_ with ea_ en_ ec_;subst ea_;subst ec_;clear en_;have p104:0≤(0:Int):=(by omega);have q104:0 < (l0.length:Int):=of_decide_eq_true zq9;obtain ⟨ad104,A104_0,c104_0,e104,hx104_0,hl104_0,hi104_0⟩:=at_L2 HR0.out 0 p104 q104;obtain rfl:ad101=ad104:=(by injection e104);have qi104:(0 < l0.length)=True:=eq_true (by omega);(try rw [show ((0:Int)).toNat=0 from rfl] at hx104_0);(try rw [Addr.add_zero'] at hx104_0);have HR104_0:=am hi104_0;have HC104_0:=am hl104_0;clear hi104_0 hl104_0;replace p104:=eq_true p104;replace q104:=eq_true q104));try go_wp2_with (first|(go_at_call 98;(with_reducible refine (spec_l05Word.calls k1 _ _ (rd_L2 l0 x3_1) true _ ?side1 ?side2 A4.out).mono ?_);(case side1=>exact zq23);(case side2=>exact HC101_0.out);rintro e w' ⟨rfl,⟨nd,rfl⟩⟩;(try first|exact ⟨rfl,_,World.drewN_drewN _ _ _⟩|exact ⟨rfl,_,Eq.trans (World.drewN_drewN _ _ _) (congrArg (World.drewN _) (Nat.add_assoc _ _ _))⟩);have p103:0≤(x3_1:Int):=of_decide_eq_true zq9;have q103:x3_1 < (l0.length:Int):=of_decide_eq_true zq9;obtain ⟨ad103,A103_0,c103_0,e103,hx103_0,hl103_0,hi103_0⟩:=at_L2 HR0.out x3_1 p103 q103;obtain rfl:ad101=ad103:=(by injection e103);have HR103_0:=am hi103_0;have HC103_0:=am hl103_0;clear hi103_0 hl103_0;replace p103:=eq_true p103;replace q103:=eq_true q103;have ea_:=Option.some.inj (hx101_0.symm.trans hx103_0);injection ea_ with ea_ en_ ec_;subst ea_;subst ec_;clear en_;have p104:0≤(0:Int):=(by omega);have q104:0 < (l0.length:Int):=of_decide_eq_true zq9;obtain ⟨ad104,A104_0,c104_0,e104,hx104_0,hl104_0,hi104_0⟩:=at_L2 HR0.out 0 p104 q104;obtain rfl:ad101=ad104:=(by injection e104);have qi104:(0 < l0.length)=True:=eq_true (by omega);(try rw [show ((0:Int)).toNat=0 from rfl] at hx104_0);(try rw [Addr.add_zero'] at hx104_0);have HR104_0:=am hi104_0;have HC104_0:=am hl104_0;clear hi104_0 hl104_0;replace p104:=eq_true p104;replace q104:=eq_true q104)))
        go_roundg k1
        case measure=>have:=HK1.out;omega
        case rel=>exact ⟨(wrap64 (x3_1 + 1)),zq3,H',⟨by have:=HK1.out;omega⟩,by repeat (first|exact Drawn0.refl _|apply Drawn0.step)⟩
       ·rw [if_neg c7] at H;have c7b0:(((rd_L2 l0 x3_1).length:Int) == ((rd_L2 l0 0).length:Int))=false:=beq_eq_false_iff_ne.mpr c7;have c7b1:(((rd_L2 l0 x3_1).length:Int) != ((rd_L2 l0 0).length:Int))=true:=bne_iff_ne.mpr c7
        have c7b2:((rd_L2 l0 x3_1).length == (rd_L2 l0 0).length)=false:=by first|simpa using c7|(simp at c7 ⊢;omega)
        obtain rfl:=Option.some.inj H;have p101:0≤(x3_1:Int):=of_decide_eq_true zq9;have q101:x3_1 < (l0.length:Int):=of_decide_eq_true zq9;obtain ⟨ad101,A101_0,c101_0,e101,hx101_0,hl101_0,hi101_0⟩:=at_L2 HR0.out x3_1 p101 q101;cases e101;have HR101_0:=am hi101_0;have HC101_0:=am hl101_0;clear hi101_0 hl101_0;replace p101:=eq_true p101;replace q101:=eq_true q101
        go_wp2_with (first|(go_at_call 98;(with_reducible refine (spec_l05Word.calls k1 _ _ (rd_L2 l0 x3_1) true _ ?side1 ?side2 A4.out).mono ?_);(case side1=>exact zq23);(case side2=>exact HC101_0.out);rintro e w' ⟨rfl,⟨nd,rfl⟩⟩;(try first|exact ⟨rfl,_,World.drewN_drewN _ _ _⟩|exact ⟨rfl,_,Eq.trans (World.drewN_drewN _ _ _) (congrArg (World.drewN _) (Nat.add_assoc _ _ _))⟩);have p103:0≤(x3_1:Int):=of_decide_eq_true zq9;have q103:x3_1 < (l0.length:Int):=of_decide_eq_true zq9;obtain ⟨ad103,A103_0,c103_0,e103,hx103_0,hl103_0,hi103_0⟩:=at_L2 HR0.out x3_1 p103 q103;obtain rfl:ad101=ad103:=(by injection e103);have HR103_0:=am hi103_0;have HC103_0:=am hl103_0;clear hi103_0 hl103_0;replace p103:=eq_true p103;replace q103:=eq_true q103;have ea_:=Option.some.inj (hx101_0.symm.trans hx103_0);injection ea_ with ea_ en_ ec_;subst ea_;subst ec_;clear en_;have p104:0≤(0:Int):=(by omega);have q104:0 < (l0.length:Int):=of_decide_eq_true zq9;obtain ⟨ad104,A104_0,c104_0,e104,hx104_0,hl104_0,hi104_0⟩:=at_L2 HR0.out 0 p104 q104;obtain rfl:ad101=ad104:=(by injection e104);have qi104:(0 < l0.length)=True:=eq_true (by omega);(try rw [show ((0:Int)).toNat=0 from rfl] at hx104_0);(try rw [Addr.add_zero'] at hx104_0);have HR104_0:=am hi104_0;have HC104_0:=am hl104_0;clear hi104_0 hl104_0;replace p104:=eq_true p104;replace q104:=eq_true q104))
        repeat (go_quiet (first|(go_at_call 98;(with_reducible refine (spec_l05Word.calls k1 _ _ (rd_L2 l0 x3_1) true _ ?side1 ?side2 A4.out).mono ?_);(case side1=>exact zq23);(case side2=>exact HC101_0.out);rintro e w' ⟨rfl,⟨nd,rfl⟩⟩;(try first|exact ⟨rfl,_,World.drewN_drewN _ _ _⟩|exact ⟨rfl,_,Eq.trans (World.drewN_drewN _ _ _) (congrArg (World.drewN _) (Nat.add_assoc _ _ _))⟩);have p103:0≤(x3_1:Int):=of_decide_eq_true zq9;have q103:x3_1 < (l0.length:Int):=of_decide_eq_true zq9;obtain ⟨ad103,A103_0,c103_0,e103,hx103_0,hl103_0,hi103_0⟩:=at_L2 HR0.out x3_1 p103 q103;obtain rfl:ad101=ad103:=(by injection e103);have HR103_0:=am hi103_0;have HC103_0:=am hl103_0;clear hi103_0 hl103_0;replace p103:=eq_true p103;replace q103:=eq_true q103;have ea_:=Option.some.inj (hx101_0.symm.trans hx103_0);injection ea_ with ea_ en_ ec_;subst ea_;subst ec_;clear en_;have p104:0≤(0:Int):=(by omega);have q104:0 < (l0.length:Int):=of_decide_eq_true zq9;obtain ⟨ad104,A104_0,c104_0,e104,hx104_0,hl104_0,hi104_0⟩:=at_L2 HR0.out 0 p104 q104;obtain rfl:ad101=ad104:=(by injection e104);have qi104:(0 < l0.length)=True:=eq_true (by omega);(try rw [show ((0:Int)).toNat=0 from rfl] at hx104_0);(try rw [Addr.add_zero'] at hx104_0);have HR104_0:=am hi104_0;have HC104_0:=am hl104_0;clear hi104_0 hl104_0;replace p104:=eq_true p104;replace q104:=eq_true q104));try go_wp2_with (first|(go_at_call 98;(with_reducible refine (spec_l05Word.calls k1 _ _ (rd_L2 l0 x3_1) true _ ?side1 ?side2 A4.out).mono ?_);(case side1=>exact zq23);(case side2=>exact HC101_0.out);rintro e w' ⟨rfl,⟨nd,rfl⟩⟩;(try first|exact ⟨rfl,_,World.drewN_drewN _ _ _⟩|exact ⟨rfl,_,Eq.trans (World.drewN_drewN _ _ _) (congrArg (World.drewN _) (Nat.add_assoc _ _ _))⟩);have p103:0≤(x3_1:Int):=of_decide_eq_true zq9;have q103:x3_1 < (l0.length:Int):=of_decide_eq_true zq9;obtain ⟨ad103,A103_0,c103_0,e103,hx103_0,hl103_0,hi103_0⟩:=at_L2 HR0.out x3_1 p103 q103;obtain rfl:ad101=ad103:=(by injection e103);have HR103_0:=am hi103_0;have HC103_0:=am hl103_0;clear hi103_0 hl103_0;replace p103:=eq_true p103;replace q103:=eq_true q103;have ea_:=Option.some.inj (hx101_0.symm.trans hx103_0);injection ea_ with ea_ en_ ec_;subst ea_;subst ec_;clear en_;have p104:0≤(0:Int):=(by omega);have q104:0 < (l0.length:Int):=of_decide_eq_true zq9;obtain ⟨ad104,A104_0,c104_0,e104,hx104_0,hl104_0,hi104_0⟩:=at_L2 HR0.out 0 p104 q104;obtain rfl:ad101=ad104:=(by injection e104);have qi104:(0 < l0.length)=True:=eq_true (by omega);(try rw [show ((0:Int)).toNat=0 from rfl] at hx104_0);(try rw [Addr.add_zero'] at hx104_0);have HR104_0:=am hi104_0;have HC104_0:=am hl104_0;clear hi104_0 hl104_0;replace p104:=eq_true p104;replace q104:=eq_true q104)))
        go_ret
        exact ⟨by first|rfl|(simp only [IntKind.wrap_i64,wrap64];done)|(simp;done)|(simp [*];done),by repeat (first|exact Drawn0.refl _|apply Drawn0.step)⟩
      ·rw [if_neg c6] at H;exact absurd H (by simp)
     ·replace c5:=Bool.eq_false_iff.mpr c5;subst c5
      have H1:(some false)=some r:=by rw [if_neg (show ¬ (false=true) by decide)] at H;exact H
      clear H;have H:=H1;clear H1;obtain rfl:=Option.some.inj H;have p101:0≤(x3_1:Int):=of_decide_eq_true zq9;have q101:x3_1 < (l0.length:Int):=of_decide_eq_true zq9;obtain ⟨ad101,A101_0,c101_0,e101,hx101_0,hl101_0,hi101_0⟩:=at_L2 HR0.out x3_1 p101 q101;cases e101;have HR101_0:=am hi101_0;have HC101_0:=am hl101_0;clear hi101_0 hl101_0;replace p101:=eq_true p101;replace q101:=eq_true q101
      go_wp2_with (first|(go_at_call 98;(with_reducible refine (spec_l05Word.calls k1 _ _ (rd_L2 l0 x3_1) false _ ?side1 ?side2 A4.out).mono ?_);(case side1=>exact zq23);(case side2=>exact HC101_0.out);rintro e w' ⟨rfl,⟨nd,rfl⟩⟩;(try first|exact ⟨rfl,_,World.drewN_drewN _ _ _⟩|exact ⟨rfl,_,Eq.trans (World.drewN_drewN _ _ _) (congrArg (World.drewN _) (Nat.add_assoc _ _ _))⟩)))
      repeat (go_quiet (first|(go_at_call 98;(with_reducible refine (spec_l05Word.calls k1 _ _ (rd_L2 l0 x3_1) false _ ?side1 ?side2 A4.out).mono ?_);(case side1=>exact zq23);(case side2=>exact HC101_0.out);rintro e w' ⟨rfl,⟨nd,rfl⟩⟩;(try first|exact ⟨rfl,_,World.drewN_drewN _ _ _⟩|exact ⟨rfl,_,Eq.trans (World.drewN_drewN _ _ _) (congrArg (World.drewN _) (Nat.add_assoc _ _ _))⟩)));try go_wp2_with (first|(go_at_call 98;(with_reducible refine (spec_l05Word.calls k1 _ _ (rd_L2 l0 x3_1) false _ ?side1 ?side2 A4.out).mono ?_);(case side1=>exact zq23);(case side2=>exact HC101_0.out);rintro e w' ⟨rfl,⟨nd,rfl⟩⟩;(try first|exact ⟨rfl,_,World.drewN_drewN _ _ _⟩|exact ⟨rfl,_,Eq.trans (World.drewN_drewN _ _ _) (congrArg (World.drewN _) (Nat.add_assoc _ _ _))⟩))))
      go_ret
      exact ⟨by first|rfl|(simp only [IntKind.wrap_i64,wrap64];done)|(simp;done)|(simp [*];done),by repeat (first|exact Drawn0.refl _|apply Drawn0.step)⟩
    ·rw [if_neg c3] at H;exact absurd H (by simp)
   ·rw [if_neg c2] at H;have c2b0:decide (x3_1 < (l0.length:Int))=false:=decide_eq_false c2;clear c2;obtain rfl:=Option.some.inj H
    go_wp2
    repeat (go_quiet (fail);try go_wp2)
    go_ret
    exact ⟨by first|rfl|(simp only [IntKind.wrap_i64,wrap64];done)|(simp;done)|(simp [*];done),by repeat (first|exact Drawn0.refl _|apply Drawn0.step)⟩
end Go.Proofs.Ytgfknljhogfeaaa.G
end

section
namespace Go.Proofs.Ytgfknljhogfeaaa.G
open Go.RowKit Go.Proofs.YtgfknljhogfeaaaW.PrintWords Go.Proofs.YtgfknljhogfeaaaW.PrintLast Go.Proofs.YtgfknljhogfeaaaW.PrintMore
attribute [local go_sem] max2_int min2_int max_two min_two max_three min_three max_four min_four
set_option linter.unusedVariables false
set_option linter.unusedSimpArgs false
theorem cellS33_0 {W:World} {g:Nat} {A0:Option Addr} {c0:Nat} {A1:Option Addr} {c1:Nat} {f0:List (S68)} {f1:List (List Int)} (h:W.heap[g]?=some (.cells #[.slice A0 f0.length c0,.slice A1 f1.length c1] 33 (0,0))):W.cell? ⟨g,0,none⟩=some (.slice A0 f0.length c0):=(blk_cell h 0).trans rfl
theorem cellS33_1 {W:World} {g:Nat} {A0:Option Addr} {c0:Nat} {A1:Option Addr} {c1:Nat} {f0:List (S68)} {f1:List (List Int)} (h:W.heap[g]?=some (.cells #[.slice A0 f0.length c0,.slice A1 f1.length c1] 33 (0,0))):W.cell? ⟨g,1,none⟩=some (.slice A1 f1.length c1):=(blk_cell h 1).trans rfl
def spec_l05Ok.flag (x:S68):Bool:=(arrL68 x).all fun c=>decide (c≤5)
def spec_l05Ok.word (n:Nat) (x:List Int):Bool:=x.all fun c=>decide (wrap64 c < (n:Int))
def spec_l05Ok.f (k:Nat) (s0_0:List S68) (s0_1:List (List Int)):Option Bool:=(spec_l00In.f (s0_0.length:Int) 1 40).bind fun t=>if t=true then (if (s0_1.length:Int) > 60 then some false else (spec_l05Words.f k s0_1).bind fun t2=>if t2=true then some (s0_0.all spec_l05Ok.flag && s0_1.all (spec_l05Ok.word s0_0.length)) else some false) else some false
set_option maxHeartbeats 8000000 in
set_option maxRecDepth 20000 in
theorem spec_l05Ok.calls (k:Nat) {g:Nat} (A0:Option Addr) (c0:Nat) (s0_0:List S68) (A1:Option Addr) (c1:Nat) (s0_1:List (List Int)) (r:Bool) (w:World) (hr0:Kd.C k68 w A0 s0_0.length s0_0) (hc0:s0_0.length≤c0) (hr1:Kd.C (Kd.slice 5 (Kd.int .u8)) w A1 s0_1.length s0_1) (hc1:s0_1.length≤c1) (hb:w.heap[g]?=some (.cells #[.slice A0 s0_0.length c0,.slice A1 s0_1.length c1] 33 (0,0))) (h:spec_l05Ok.f k s0_0 s0_1=some r) :
  Calls Try.prog 40 #[.pointer (some ⟨g,0,none⟩)] w fun e w'=>e=.returned (.bool r)∧Below w.heap.size w w':=by
 suffices hs:Calls Try.prog 40 #[.pointer (some ⟨g,0,none⟩)] w fun e w'=>e=.returned (.bool r)∧Drawn0 w w' by
  refine hs.mono fun e w' ⟨he,m,hm⟩=>?_
  subst hm;exact ⟨he,pw_below_drewN (Below.refl _ _) m⟩
 have HR0:=am hr0;have HR1:=am hr1;have x0:w.cell? ⟨g,0,none⟩=some (.slice A0 s0_0.length c0):=cellS33_0 hb;have x1:w.cell? ⟨g,1,none⟩=some (.slice A1 s0_1.length c1):=cellS33_1 hb;have hl0:s0_0.length≤9223372036854775807:=hr0.2.1;have hl1:s0_1.length≤9223372036854775807:=hr1.2.1;clear hb hr0 hr1 hc0 hc1
 unfold spec_l05Ok.f at h
 replace h:=Option.bind_eq_some_iff.mp h;obtain ⟨t,A1_,h⟩:=h;replace A1_:=am A1_
 cases t with
 | false =>
  rw [if_neg (by decide)] at h;obtain rfl:=Option.some.inj h;clear h
  go_enter Try.func40,Try.ntmps40
  go_wp2_with (go_at_call 41;(with_reducible refine (spec_l00In.calls _ 1 40 false _ A1_.out).mono ?_);rintro e w' ⟨rfl,⟨nd,rfl⟩⟩)
  go_ret
  exact ⟨by first|rfl|simp,by repeat (first|exact Drawn0.refl _|apply Drawn0.step)⟩
 | true =>
  rw [if_pos rfl] at h
  by_cases h60:(s0_1.length:Int) > 60
  ·rw [if_pos h60] at h;obtain rfl:=Option.some.inj h;clear h;have b60:decide (60 < (s0_1.length:Int))=true:=decide_eq_true h60;clear h60
   go_enter Try.func40,Try.ntmps40
   go_wp2_with (go_at_call 41;(with_reducible refine (spec_l00In.calls _ 1 40 true _ A1_.out).mono ?_);rintro e w' ⟨rfl,⟨nd,rfl⟩⟩)
   go_ret
   exact ⟨by first|rfl|simp,by repeat (first|exact Drawn0.refl _|apply Drawn0.step)⟩
  ·rw [if_neg h60] at h;have b60:decide (60 < (s0_1.length:Int))=false:=decide_eq_false h60;clear h60;replace h:=Option.bind_eq_some_iff.mp h;obtain ⟨t2,A2_,h⟩:=h;replace A2_:=am A2_;have HW:Aside0 (∀ q:Nat,Calls Try.prog 75 #[.slice A1 s0_1.length c1] (w.drewN q) fun e w'=>e=.returned (.bool t2)∧Drawn0 (w.drewN q) w'):=⟨fun q=>spec_l05Words.callsN k A1 c1 s0_1 t2 _ (Kd.C_drewN HR1.out q) A2_.out⟩
   cases t2 with
   | false =>
    rw [if_neg (by decide)] at h;obtain rfl:=Option.some.inj h;clear h
    go_enter Try.func40,Try.ntmps40
    go_wp2_with (first|(go_at_call 41;(with_reducible refine (spec_l00In.calls _ 1 40 true _ A1_.out).mono ?_);rintro e w' ⟨rfl,⟨nd,rfl⟩⟩)|(go_at_call 75;refine (HW.out _).mono ?_;rintro e w' ⟨rfl,⟨nd2,rfl⟩⟩))
    go_ret
    exact ⟨by first|rfl|simp,by repeat (first|exact Drawn0.refl _|apply Drawn0.step)⟩
   | true =>
    rw [if_pos rfl] at h;have HH:=am (Option.some.inj h);clear h;generalize hn0:s0_0.length=m0 at *;generalize hn1:s0_1.length=m1 at *;have Hn0:=am hn0;have Hn1:=am hn1;clear hn0 hn1
    go_enter Try.func40,Try.ntmps40
    go_wp2_with (first|(go_at_call 41;(with_reducible refine (spec_l00In.calls _ 1 40 true _ A1_.out).mono ?_);rintro e w' ⟨rfl,⟨nd,rfl⟩⟩)|(go_at_call 75;refine (HW.out _).mono ?_;rintro e w' ⟨rfl,⟨nd2,rfl⟩⟩))
    go_loopg [3] (m0 + 1) (fun gg s3 wr=>∃ i:Nat,i≤m0∧m0 - i≤gg∧s3=.int .i64 i∧Aside0 ((s0_0.take i).all spec_l05Ok.flag=true)∧Drawn0 w wr)
    case atStart=>exact ⟨0,by omega,by omega,rfl,⟨rfl⟩,by repeat (first|exact Drawn0.refl _|apply Drawn0.step)⟩
    case round =>
     obtain ⟨i,hi,hg,rfl,HE,⟨m2,rfl⟩⟩:=hrel
     by_cases hlt:i < m0
     ·have hltz:(i:Int) < (m0:Int):=by omega
      have HI:=am (show i < s0_0.length by rw [Hn0.out];exact hlt);obtain ⟨ad,e0,hcell⟩:=rowA68 HR0.out hlt;cases e0;have HX:=am (show rd_T68 s0_0 (i:Int)=s0_0[i]'HI.out by unfold rd_T68;rw [Int.toNat_natCast,List.getD_eq_getElem?_getD,List.getElem?_eq_getElem HI.out];rfl);have HC:Aside0 (∀ q:Nat,Calls Try.prog 76 #[.pointer (some (ad.add (i * 24)))] (w.drewN q) fun e w'=>e=.returned (.bool (spec_l05Ok.flag (rd_T68 s0_0 (i:Int))))∧Drawn0 (w.drewN q) w'):=⟨fun q=>spec_l01Ok.core (ad.add (i * 24)) (arrL68 (rd_T68 s0_0 (i:Int))) rfl _ (fun j hj=>hcell j hj)⟩;clear hcell
      cases hf:spec_l05Ok.flag (rd_T68 s0_0 (i:Int)) with
      | true =>
       rw [hf] at HC;have HE2:=am (show (s0_0.take (i + 1)).all spec_l05Ok.flag=true by rw [all_succ HI.out,HE.out,← HX.out,hf];rfl);clear hf
       go_wp2_with (go_at_call 76;refine (HC.out _).mono ?_;rintro e w' ⟨rfl,⟨nd3,rfl⟩⟩)
       go_roundg (m0 - (i + 1))
       case measure=>omega
       case rel=>exact ⟨i + 1,by omega,by omega,by go_num,HE2,by repeat (first|exact Drawn0.refl _|apply Drawn0.step)⟩
      | false =>
       rw [hf] at HC
       have hr:r=false:=by
        rw [← HH.out,show s0_0.all spec_l05Ok.flag=false by rw [List.all_eq_false];exact ⟨s0_0[i]'HI.out,List.getElem_mem _,by rw [← HX.out,hf];decide⟩];rfl
       clear hf
       go_wp2_with (go_at_call 76;refine (HC.out _).mono ?_;rintro e w' ⟨rfl,⟨nd3,rfl⟩⟩)
       go_ret
       exact ⟨by rw [hr];first|done|rfl|simp,by repeat (first|exact Drawn0.refl _|apply Drawn0.step)⟩
     ·have:i=m0:=by omega
      subst this;have HF:=am (show s0_0.all spec_l05Ok.flag=true by have h_:=HE.out;rwa [List.take_of_length_le (by rw [Hn0.out];exact Nat.le_refl _)] at h_);clear HE
      go_wp2
      go_loopg [4] (m1 + 1) (fun gg s4 wr=>∃ q:Nat,q≤m1∧m1 - q≤gg∧s4=.int .i64 q∧Aside0 ((s0_1.take q).all (spec_l05Ok.word i)=true)∧Drawn0 w wr)
      case atStart=>exact ⟨0,by omega,by omega,rfl,⟨rfl⟩,by repeat (first|exact Drawn0.refl _|apply Drawn0.step)⟩
      case round =>
       obtain ⟨q,hq,hg2,rfl,HE,⟨m3,rfl⟩⟩:=hrel
       by_cases hlq:q < m1
       ·have hlqz:(q:Int) < (m1:Int):=by omega
        have HI:=am (show q < s0_1.length by rw [Hn1.out];exact hlq);obtain ⟨ad,Aw,cw,e0,hx0,hlc,hC1⟩:=at_L2 HR1.out (q:Int) (by omega) (by omega);cases e0;simp only [Int.toNat_natCast] at hx0;have HX:=am (show rd_L2 s0_1 (q:Int)=s0_1[q]'HI.out by unfold rd_L2;rw [Int.toNat_natCast,List.getD_eq_getElem?_getD,List.getElem?_eq_getElem HI.out];rfl);have hlw:(rd_L2 s0_1 (q:Int)).length≤9223372036854775807:=hC1.2.1;have HCW:=am hC1;clear hC1 hlc;generalize rd_L2 s0_1 (q:Int)=x at *;generalize hnx:x.length=mx at *;have Hnx:=am hnx;clear hnx
        go_wp2
        go_loopg [5] (mx + 1) (fun gg s5 wr=>∃ j:Nat,j≤mx∧mx - j≤gg∧s5=.int .i64 j∧Aside0 ((x.take j).all (fun c=>decide (wrap64 c < (i:Int)))=true)∧Drawn0 w wr)
        case atStart=>exact ⟨0,by omega,by omega,rfl,⟨rfl⟩,by repeat (first|exact Drawn0.refl _|apply Drawn0.step)⟩
        case round =>
         obtain ⟨j,hj,hg3,rfl,HJ,⟨m4,rfl⟩⟩:=hrel
         by_cases hlj:j < mx
         ·have hljz:(j:Int) < (mx:Int):=by omega
          have HJI:=am (show j < x.length by rw [Hnx.out];exact hlj);obtain ⟨ad2,e2,hx2⟩:=Kd.at_int HCW.out (j:Int) (by omega) (by omega);cases e2;simp only [Int.toNat_natCast] at hx2;have HD:=am (show rd x (j:Int)=x[j]'HJI.out by unfold rd;rw [Int.toNat_natCast,List.getD_eq_getElem?_getD,List.getElem?_eq_getElem HJI.out];rfl);generalize rd x (j:Int)=c at *
          by_cases hc:wrap64 c < (i:Int)
          ·have b0:decide (wrap64 c≥(i:Int))=false:=decide_eq_false (by omega);have b1:decide ((i:Int)≤wrap64 c)=false:=decide_eq_false (by omega);have HJ2:=am (show (x.take (j + 1)).all (fun c=>decide (wrap64 c < (i:Int)))=true by rw [all_succ HJI.out,HJ.out,← HD.out,decide_eq_true hc];rfl);clear hc
           go_wp2
           repeat (go_quiet (fail);try go_wp2)
           go_roundg (mx - (j + 1))
           case measure=>omega
           case rel=>exact ⟨j + 1,by omega,by omega,by go_num,HJ2,by repeat (first|exact Drawn0.refl _|apply Drawn0.step)⟩
          ·have b0:decide (wrap64 c≥(i:Int))=true:=decide_eq_true (by omega);have b1:decide ((i:Int)≤wrap64 c)=true:=decide_eq_true (by omega)
           have hr:r=false:=by
            rw [← HH.out,show s0_1.all (spec_l05Ok.word i)=false by rw [List.all_eq_false];exact ⟨s0_1[q]'HI.out,List.getElem_mem _,by rw [← HX.out,spec_l05Ok.word,Bool.not_eq_true,List.all_eq_false];exact ⟨c,by rw [HD.out];exact List.getElem_mem _,by simpa using hc⟩⟩,Bool.and_false]
           clear hc
           go_wp2
           repeat (go_quiet (fail);try go_wp2)
           go_ret
           exact ⟨by rw [hr];first|done|rfl|simp,by repeat (first|exact Drawn0.refl _|apply Drawn0.step)⟩
         ·have:j=mx:=by omega
          subst this;have HE2:=am (show (s0_1.take (q + 1)).all (spec_l05Ok.word i)=true by rw [all_succ HI.out,HE.out,← HX.out,spec_l05Ok.word];have h_:=HJ.out;rw [List.take_of_length_le (by rw [Hnx.out];exact Nat.le_refl _)] at h_;rw [h_];rfl)
          go_wp2
          go_roundg (m1 - (q + 1))
          case measure=>omega
          case rel=>exact ⟨q + 1,by omega,by omega,by go_num,HE2,by repeat (first|exact Drawn0.refl _|apply Drawn0.step)⟩
       ·have:q=m1:=by omega
        subst this
        have hr:r=true:=by
         have h_:=HE.out;rw [List.take_of_length_le (by rw [Hn1.out];exact Nat.le_refl _)] at h_;rw [← HH.out,HF.out,h_];rfl
        go_wp2
        go_ret
        exact ⟨by rw [hr];first|done|rfl|simp,by repeat (first|exact Drawn0.refl _|apply Drawn0.step)⟩
end Go.Proofs.Ytgfknljhogfeaaa.G
end

section
namespace Go.Proofs.Ytgfknljhogfeaaa.G
open Go.RowKit Go.Proofs.YtgfknljhogfeaaaW.PrintWords Go.Proofs.YtgfknljhogfeaaaW.PrintLast Go.Proofs.YtgfknljhogfeaaaW.PrintMore
attribute [local go_sem] max2_int min2_int max_two min_two max_three min_three max_four min_four
set_option linter.unusedVariables false
set_option linter.unusedSimpArgs false
def spec_l05Seen.ok (x:S61):Bool:=(arrL61 x).all fun c=>decide (c≤5)
def spec_l05Seen.f (l0:List S61):Option Bool:=some (l0.all spec_l05Seen.ok)
set_option maxHeartbeats 4000000 in
theorem spec_l05Seen.calls (A0:Option Addr) (c0:Nat) (l0:List (S61)) (r:Bool) (w:World) (hr0:Kd.C k61 w A0 l0.length l0) (hc0:l0.length≤c0) (h:spec_l05Seen.f l0=some r) :
  Calls Try.prog 57 #[.slice A0 l0.length c0] w fun e w'=>e=.returned (.bool r)∧Drawn0 w w':=by
 obtain rfl:=Option.some.inj h;clear h;have hl9:l0.length≤9223372036854775807:=hr0.2.1;have HR0:=am hr0;clear hr0;generalize hn:l0.length=m at *;have Hn:=am hn;clear hn
 go_enter Try.func57,Try.ntmps57
 go_wp2
 go_loopg [3] (m + 1) (fun gg s3 wr=>∃ i:Nat,i≤m∧m - i≤gg∧s3=.int .i64 i∧Aside0 ((l0.take i).all spec_l05Seen.ok=true)∧Drawn0 w wr)
 case atStart=>exact ⟨0,by omega,by omega,rfl,⟨rfl⟩,by repeat (first|exact Drawn0.refl _|apply Drawn0.step)⟩
 case round =>
  obtain ⟨i,hi,hg,rfl,HE,⟨m1,rfl⟩⟩:=hrel
  by_cases hlt:i < m
  ·have hltz:(i:Int) < (m:Int):=by omega
   obtain ⟨ad,e0,hcell⟩:=rowA61 HR0.out hlt;cases e0;have HCL:=am hcell;have HI:=am (show i < l0.length by rw [Hn.out];exact hlt);have HX:=am (show rd_T61 l0 (i:Int)=l0[i]'HI.out by unfold rd_T61;rw [Int.toNat_natCast,List.getD_eq_getElem?_getD,List.getElem?_eq_getElem HI.out];rfl);clear hcell;generalize rd_T61 l0 (i:Int)=x at *
   go_wp2
   go_loopg [4] 7 (fun gg s4 wr=>∃ j:Nat,j≤6∧6 - j≤gg∧s4=.int .i64 j∧Aside0 (((arrL61 x).take j).all (fun c=>decide (c≤5))=true)∧Drawn0 w wr)
   case atStart=>exact ⟨0,by omega,by omega,rfl,⟨rfl⟩,by repeat (first|exact Drawn0.refl _|apply Drawn0.step)⟩
   case round =>
    obtain ⟨j,hj,hg2,rfl,HJ,⟨m2,rfl⟩⟩:=hrel
    by_cases hlj:j < 6
    ·have hljz:(j:Int) < 6:=by omega
     have c1:=HCL.out j hlj;have HD:=am (show (arrL61 x).getD j 0=(arrL61 x)[j]'(by rw [arrL61_len];exact hlj) by rw [List.getD_eq_getElem?_getD,List.getElem?_eq_getElem (by rw [arrL61_len];exact hlj)];rfl);generalize (arrL61 x).getD j 0=c at *
     by_cases h5:c≤5
     ·have b0:decide (5 < c)=false:=decide_eq_false (by omega);have HJ2:=am (show ((arrL61 x).take (j + 1)).all (fun c=>decide (c≤5))=true by rw [all_succ (by rw [arrL61_len];exact hlj),HJ.out,← HD.out,decide_eq_true h5];rfl);clear h5
      go_wp2
      go_roundg (6 - (j + 1))
      case measure=>omega
      case rel=>exact ⟨j + 1,by omega,by omega,by go_num,HJ2,by repeat (first|exact Drawn0.refl _|apply Drawn0.step)⟩
     ·have b0:decide (5 < c)=true:=decide_eq_true (by omega)
      have hf:l0.all spec_l05Seen.ok=false:=by
       rw [List.all_eq_false];refine ⟨l0[i]'HI.out,List.getElem_mem _,?_⟩;rw [← HX.out,spec_l05Seen.ok,Bool.not_eq_true,List.all_eq_false];exact ⟨c,by rw [HD.out];exact List.getElem_mem _,by simpa using h5⟩
      clear h5
      go_wp2
      go_ret
      exact ⟨by first|(rw [hf];done)|(rw [hf];rfl),by repeat (first|exact Drawn0.refl _|apply Drawn0.step)⟩
    ·have:j=6:=by omega
     subst this;have HE2:=am (show (l0.take (i + 1)).all spec_l05Seen.ok=true by rw [all_succ HI.out,HE.out,← HX.out,spec_l05Seen.ok];have h_:=HJ.out;rw [List.take_of_length_le (by rw [arrL61_len];exact Nat.le_refl _)] at h_;rw [h_];rfl)
     go_wp2
     go_roundg (m - (i + 1))
     case measure=>omega
     case rel=>exact ⟨i + 1,by omega,by omega,by go_num,HE2,by repeat (first|exact Drawn0.refl _|apply Drawn0.step)⟩
  ·have:i=m:=by omega
   subst this
   have hf:l0.all spec_l05Seen.ok=true:=by have h_:=HE.out;rwa [List.take_of_length_le (by rw [Hn.out];exact Nat.le_refl _)] at h_
   go_wp2
   go_ret
   exact ⟨by first|(rw [hf];done)|(rw [hf];rfl),by repeat (first|exact Drawn0.refl _|apply Drawn0.step)⟩
end Go.Proofs.Ytgfknljhogfeaaa.G
end

section
namespace Go.Proofs.Ytgfknljhogfeaaa.G
open Go.RowKit Go.Proofs.YtgfknljhogfeaaaW.PrintWords Go.Proofs.YtgfknljhogfeaaaW.PrintLast Go.Proofs.YtgfknljhogfeaaaW.PrintMore
attribute [local go_sem] max2_int min2_int max_two min_two max_three min_three max_four min_four
set_option linter.unusedVariables false
set_option linter.unusedSimpArgs false
theorem spec_l01Blur.posEq {bm km bd kd:Nat} (h1:bm < 3) (h2:km < 2) (h3:bd < 2) (h4:kd < 2):wrap64 (IntKind.i64.wrap (IntKind.i64.wrap ((bm:Int) * 2) + (km:Int)) + wrap64 (6 * IntKind.i64.wrap (IntKind.i64.wrap (IntKind.i64.wrap (bd:Int) * 2) + IntKind.i64.wrap (kd:Int))))=((bm * 2 + km + 6 * (bd * 2 + kd):Nat):Int):=by
 rw [wrapB (x:=(bd:Int)) (by omega) (by omega),wrapB (x:=(kd:Int)) (by omega) (by omega),wrapB (x:=(bm:Int) * 2) (by omega) (by omega),wrapB (x:=(bd:Int) * 2) (by omega) (by omega),wrapB (x:=(bm:Int) * 2 + (km:Int)) (by omega) (by omega),wrapB (x:=(bd:Int) * 2 + (kd:Int)) (by omega) (by omega),show wrap64 (6 * ((bd:Int) * 2 + (kd:Int)))=6 * ((bd:Int) * 2 + (kd:Int)) from by unfold wrap64;omega]
 unfold wrap64
 omega
theorem spec_l01Blur.index (x y:Int) (w:World):Calls Try.prog 99 #[.int .i64 x,.int .i64 y] w fun e w'=>e=.returned (.int .i64 (wrap64 (x + wrap64 (6 * y))))∧w'=w:=by
 go_enter Try.func99,Try.ntmps99
 go_wp2
 go_ret
 exact ⟨by first|rfl|simp,rfl⟩
set_option maxHeartbeats 8000000 in
set_option maxRecDepth 100000 in
theorem spec_l01Blur.core (p:Addr) (xs:List Int) (hx:xs.length=24) (hv:∀ x∈xs,0≤x∧x < 6) (w:World) (hc:∀ j:Nat,j < 24→w.cell? (p.add j)=some (.int .u8 (xs.getD j 0))) :
  Calls Try.prog 77 #[.pointer (some p)] w fun e w'=>e=.returned (.agg (nums .u8 (blurB xs)).toArray)∧Below w.heap.size w w':=by
 have HC:=am hc
 have HV:Aside0 (∀ j:Nat,j < 24→0≤xs.getD j 0∧xs.getD j 0 < 6):=⟨fun j hj=>by
  rw [List.getD_eq_getElem?_getD,List.getElem?_eq_getElem (show j < xs.length by omega)]
  exact hv _ (List.getElem_mem _)⟩
 have HB:=am (Below.refl w.heap.size w);have HIT:=am (show (Try.prog.info? 60).map (·.size)=some 6 by kernel_rfl);have HIC:=am (show (Try.prog.info? 131).map (·.size)=some 6 by kernel_rfl);clear hc hv
 go_enter Try.func77,Try.ntmps77
 go_wp2_with (first|((with_reducible refine gate_dst (N:=2) rfl ?_);refine box_event ?hg (N:=2) ?hd (cs:=(nums .u8 (List.replicate 6 0)).toArray) (t:=60) ?hr ?_;(case hd=>rfl);(case hg=>rfl);(case hr=>exact zq15);intro b2 hg_ w2 hb_ hB_;have HB2:=am (below_step HB.out hB_);have BL2:=am (show IsBox .u8 60 w2 b2 (List.replicate 6 0) from hb_);have GE2:=am (show w.heap.size≤b2 by rw [hg_];exact Nat.le_refl _);clear hb_ hB_ hg_)|((with_reducible refine gate_dst (N:=3) rfl ?_);refine box_event ?hg (N:=3) ?hd (cs:=(nums .u8 (List.replicate 6 0)).toArray) (t:=60) ?hr ?_;(case hd=>rfl);(case hg=>rfl);(case hr=>exact zq15);intro b3 hg_ w3 hb_ hB_;have N32:=am (show b3≠b2 by rw [hg_];have:=box_lt BL2.out;omega);have GE3:=am (show w.heap.size≤b3 by rw [hg_];exact below_size HB2.out);have HB3:=am (below_step HB2.out hB_);have BL3:=am (box_below BL2.out hB_);have BM3:=am (show IsBox .u8 60 w3 b3 (List.replicate 6 0) from hb_);clear hb_ hB_ hg_)|((with_reducible refine gate_store (t:=60) (p:=3) rfl ?_);refine box_store (k:=.u8) (t:=60) (b:=b3) (xs:=(List.replicate 6 0)) (ys:=(List.replicate 6 0)) rfl rfl rfl rfl rfl BM3.out rfl HIT.out ?_;intro w4 hw4;have BL4:=am (show IsBox .u8 60 w4 b2 (List.replicate 6 0) by rw [hw4];exact box_apart BL3.out N32.out.symm _);have BM4:=am (show IsBox .u8 60 w4 b3 (List.replicate 6 0) by rw [hw4];exact box_row BM3.out (List.replicate 6 0));have HB4:=am (show Below w.heap.size w w4 by rw [hw4];exact Go.below_setRow HB3.out GE3.out _);clear hw4))
 go_loopg [4] 7 (fun gg s4 wr=>∃ b:Nat,b≤6∧6 - b≤gg∧s4=.int .i64 b∧Aside0 (Below w.heap.size w wr)∧Aside0 (IsBox .u8 60 wr b2 (List.replicate 6 0))∧Aside0 (IsBox .u8 60 wr b3 ((List.range b).map (oneB xs) ++ List.replicate (6 - b) 0)))
 case atStart=>exact ⟨0,by omega,by omega,rfl,HB4,BL4,BM4⟩
 case round =>
  clear HB HB2 HB3 HB4 BL2 BL3 BM3 BL4 BM4;obtain ⟨b,hb,hg,rfl,HBr,BLr,BMr⟩:=hrel
  by_cases hlt:b < 6
  ·have hltz:(b:Int) < 6:=by omega
   go_wp2_with (first|((with_reducible refine gate_dst (N:=5) rfl ?_);refine box_event ?hg (N:=5) ?hd (cs:=(nums .i64 (List.replicate 6 0)).toArray) (t:=131) ?hr ?_;(case hd=>rfl);(case hg=>rfl);(case hr=>exact zq15);intro b5 hg_ w5 hb_ hB_;have N52:=am (show b2≠b5 by rw [hg_];have:=box_lt BLr.out;omega);have N53:=am (show b3≠b5 by rw [hg_];have:=box_lt BMr.out;omega);have GE5:=am (show w.heap.size≤b5 by rw [hg_];exact below_size HBr.out);have HB5:=am (below_step HBr.out hB_);have BL5:=am (box_below BLr.out hB_);have BM5:=am (box_below BMr.out hB_);have BC5:=am (show IsBox .i64 131 w5 b5 (List.replicate 6 0) from hb_);clear hb_ hB_ hg_)|((with_reducible refine gate_store (t:=131) (p:=5) rfl ?_);refine box_store (k:=.i64) (t:=131) (b:=b5) (xs:=(List.replicate 6 0)) (ys:=(List.replicate 6 0)) rfl rfl rfl rfl rfl BC5.out rfl HIC.out ?_;intro w6 hw6;have BL6:=am (show IsBox .u8 60 w6 b2 (List.replicate 6 0) by rw [hw6];exact box_apart BL5.out N52.out _);have BM6:=am (show IsBox .u8 60 w6 b3 ((List.range b).map (oneB xs) ++ List.replicate (6 - b) 0) by rw [hw6];exact box_apart BM5.out N53.out _);have BC6:=am (show IsBox .i64 131 w6 b5 (cntB xs b 0) by rw [hw6];exact box_row BC5.out (List.replicate 6 0));have HB6:=am (show Below w.heap.size w w6 by rw [hw6];exact Go.below_setRow HB5.out GE5.out _);clear hw6))
   go_loopg [6] 5 (fun gg s6 wr=>∃ k:Nat,k≤4∧4 - k≤gg∧s6=.int .i64 k∧Aside0 (Below w.heap.size w wr)∧Aside0 (IsBox .u8 60 wr b2 (List.replicate 6 0))∧Aside0 (IsBox .u8 60 wr b3 ((List.range b).map (oneB xs) ++ List.replicate (6 - b) 0))∧Aside0 (IsBox .i64 131 wr b5 (cntB xs b k)))
   case atStart=>exact ⟨0,by omega,by omega,rfl,HB6,BL6,BM6,BC6⟩
   case round =>
    clear HBr BLr BMr HB5 BL5 BM5 BC5 HB6 BL6 BM6 BC6;obtain ⟨k,hk,hg2,rfl,HBr,BLr,BMr,BCr⟩:=hrel
    by_cases hlk:k < 4
    ·have hlkz:(k:Int) < 4:=by omega
     have e1:Int.tmod (b:Int) 3=((b % 3:Nat):Int):=rfl;have e2:Int.tmod (k:Int) 2=((k % 2:Nat):Int):=rfl;have e3:Int.tdiv (b:Int) 3=((b / 3:Nat):Int):=rfl;have e4:Int.tdiv (k:Int) 2=((k / 2:Nat):Int):=rfl;have HP:=am (show posB b k=(b % 3 * 2 + k % 2) + 6 * (b / 3 * 2 + k / 2) from rfl);have HPL:=am (posB_lt hlt hlk)
     have g1:b % 3 < 3:=by omega
     have g2:k % 2 < 2:=by omega
     have g3:b / 3 < 2:=by omega
     have g4:k / 2 < 2:=by omega
     have c1:=(HBr.out.cell (World.block_lt_of_cell? w _ (HC.out _ HPL.out))).trans (HC.out _ HPL.out);have hv:=HV.out _ HPL.out;have HN:=am (show cntB xs b (k + 1)=(cntB xs b k).set (xs.getD (posB b k) 0).toNat ((cntB xs b k).getD (xs.getD (posB b k) 0).toNat 0 + 1) from rfl);have HCL:=am (cntB_len xs b k);have hle:=cntB_le xs b k (xs.getD (posB b k) 0).toNat;generalize b % 3=bm at *;generalize k % 2=km at *;generalize b / 3=bd at *;generalize k / 2=kd at *;generalize xs.getD (posB b k) 0=c at *;generalize posB b k=q at *;obtain ⟨v,rfl⟩:∃ v:Nat,c=(v:Int):=⟨c.toNat,by omega⟩;rw [Int.toNat_natCast] at HN hle;have c2:=box_at BCr.out (show v < (cntB xs b k).length by rw [HCL.out];omega);have f2:=box_frozen BCr.out v;have HG:=am (show (cntB xs b k).getD v 0=(cntB xs b k)[v]'zq66 by rw [List.getD_eq_getElem?_getD,List.getElem?_eq_getElem (show v < (cntB xs b k).length by rw [HCL.out];omega)];rfl);rw [HG.out] at hle HN
     have hqz:(q:Int) < 24:=by have:=HPL.out;omega
     have hvz:(v:Int) < 6:=by omega
     have c1d:World.cell? { wr with drawn:=wr.drawn + 1 } (p.add q)=some (.int .u8 (v:Int)):=c1;have c2d:World.cell? { wr with drawn:=wr.drawn + 1 } ⟨b5,v,none⟩=some (.int .i64 ((cntB xs b k)[v]'zq66)):=c2
     go_wp2
     go_still_tail 21,zq16
     refine wpStill_step (fun K hK=>?_);go_simp;refine ⟨.int .i64 (q:Int),?_,hK _ ?_⟩
     ·refine (spec_l01Blur.index _ _ _).mono ?_
      rintro e w_ ⟨rfl,rfl⟩
      exact ⟨congrArg (fun z=>Ending.returned (.int .i64 z)) ((spec_l01Blur.posEq g1 g2 g3 g4).trans (congrArg Nat.cast HP.out.symm)),rfl⟩
     clear hK K
     repeat still_step
     (try refine wpStill_nil ?_);have hw:IntKind.i64.wrap ((cntB xs b k)[v]'zq66 + 1)=(cntB xs b k)[v]'zq66 + 1:=wrapB (by omega) (by omega);simp only [hw];have BCs:=am (box_set (show IsBox .i64 131 wr.drew b5 (cntB xs b k) from BCr.out) v ((cntB xs b k)[v]'zq66 + 1));have BLs:=am (box_far (show IsBox .u8 60 wr.drew b2 (List.replicate 6 0) from BLr.out) (p:=⟨b5,v,none⟩) N52.out (.int .i64 ((cntB xs b k)[v]'zq66 + 1)));have BMs:=am (box_far (show IsBox .u8 60 wr.drew b3 ((List.range b).map (oneB xs) ++ List.replicate (6 - b) 0) from BMr.out) (p:=⟨b5,v,none⟩) N53.out (.int .i64 ((cntB xs b k)[v]'zq66 + 1)));have HBs:=am (below_set (j:=v) (v:=.int .i64 ((cntB xs b k)[v]'zq66 + 1)) (h:=below_drew HBr.out) (hg:=GE5.out));rw [← HN.out] at BCs;have c2e:wr.drew.cell? ⟨b5,v,none⟩=some (.int .i64 ((cntB xs b k)[v]'zq66)):=c2;have f2e:wr.drew.frozen? ⟨b5,v,none⟩=false:=f2;clear c1 c1d c2 c2d f2 hle hw HG HN
     change wpList _ _ _ _ _ wr.drew
     generalize wr.drew=wd at *
     go_wp2
     go_roundg (4 - (k + 1))
     case measure=>omega
     case rel=>exact ⟨k + 1,by omega,by omega,by go_num,HBs,BLs,BMs,BCs⟩
    ·have:k=4:=by omega
     subst this
     go_wp2
     go_loopg [7,8] 7 (fun gg s7 s8 wr=>∃ c:Nat,c≤5∧5 - c≤gg∧s8=.int .i64 ((c + 1:Nat))∧s7=.int .i64 ((bstB (cntB xs b 4) c:Nat))∧Aside0 (Below w.heap.size w wr)∧Aside0 (IsBox .u8 60 wr b2 (List.replicate 6 0))∧Aside0 (IsBox .u8 60 wr b3 ((List.range b).map (oneB xs) ++ List.replicate (6 - b) 0))∧Aside0 (IsBox .i64 131 wr b5 (cntB xs b 4)))
     case atStart=>exact ⟨0,by omega,by omega,rfl,rfl,HBr,BLr,BMr,BCr⟩
     case round =>
      clear HBr BLr BMr BCr;obtain ⟨c,hc,hg3,rfl,rfl,HBr,BLr,BMr,BCr⟩:=hrel;have HCL:=am (cntB_len xs b 4);have HBE:=am (bstB_le (cntB xs b 4) c)
      by_cases hlc:c < 5
      ·have hlcz:((c + 1:Nat):Int) < 6:=by omega
       have hlcy:(c:Int) + 1 < 6:=by omega
       have HS:=am (show bstB (cntB xs b 4) (c + 1)=if (cntB xs b 4).getD (bstB (cntB xs b 4) c) 0 < (cntB xs b 4).getD (c + 1) 0 then c + 1 else bstB (cntB xs b 4) c from rfl);have c1:=box_at BCr.out (j:=c + 1) zq66;have c2:=box_at BCr.out (j:=bstB (cntB xs b 4) c) (by rw [HCL.out];have:=HBE.out;omega)
       have hbz:((bstB (cntB xs b 4) c:Nat):Int) < 6:=by have:=HBE.out;omega
       have HX:=am (show (cntB xs b 4).getD (c + 1) 0=(cntB xs b 4)[c + 1]'zq66 by rw [List.getD_eq_getElem?_getD,List.getElem?_eq_getElem zq66];rfl);have HY:=am (show (cntB xs b 4).getD (bstB (cntB xs b 4) c) 0=(cntB xs b 4)[bstB (cntB xs b 4) c]'(by rw [HCL.out];have:=HBE.out;omega) by rw [List.getD_eq_getElem?_getD,List.getElem?_eq_getElem (by rw [HCL.out];have:=HBE.out;omega)];rfl);rw [← HX.out] at c1;rw [← HY.out] at c2;clear HX HY
       by_cases hcmp:(cntB xs b 4).getD (bstB (cntB xs b 4) c) 0 < (cntB xs b 4).getD (c + 1) 0
       ·rw [if_pos hcmp] at HS;have d0:decide ((cntB xs b 4).getD (bstB (cntB xs b 4) c) 0 < (cntB xs b 4).getD (c + 1) 0)=true:=decide_eq_true hcmp;clear hcmp;generalize (cntB xs b 4).getD (c + 1) 0=y1 at *;generalize (cntB xs b 4).getD (bstB (cntB xs b 4) c) 0=y2 at *;generalize bstB (cntB xs b 4) c=q at *
        go_wp2
        repeat (go_quiet (fail);try go_wp2)
        go_roundg (5 - (c + 1))
        case measure=>omega
        case rel=>exact ⟨c + 1,by omega,by omega,by go_num,by rw [HS.out];first|done|rfl|go_num,⟨by repeat (first|exact HBr.out|apply pw_below_drewN|apply below_drew1)⟩,⟨BLr.out⟩,⟨BMr.out⟩,⟨BCr.out⟩⟩
       ·rw [if_neg hcmp] at HS;have d0:decide ((cntB xs b 4).getD (bstB (cntB xs b 4) c) 0 < (cntB xs b 4).getD (c + 1) 0)=false:=decide_eq_false hcmp;clear hcmp;generalize (cntB xs b 4).getD (c + 1) 0=y1 at *;generalize (cntB xs b 4).getD (bstB (cntB xs b 4) c) 0=y2 at *;generalize bstB (cntB xs b 4) c=q at *
        go_wp2
        repeat (go_quiet (fail);try go_wp2)
        go_roundg (5 - (c + 1))
        case measure=>omega
        case rel=>exact ⟨c + 1,by omega,by omega,by go_num,by rw [HS.out];first|done|rfl|go_num,⟨by repeat (first|exact HBr.out|apply pw_below_drewN|apply below_drew1)⟩,⟨BLr.out⟩,⟨BMr.out⟩,⟨BCr.out⟩⟩
      ·have:c=5:=by omega
       subst this;have HO:=am (show oneB xs b=((bstB (cntB xs b 4) 5:Nat):Int) from rfl);have c3:=box_at BMr.out (j:=b) (by simp;omega);have f3:=box_frozen BMr.out b;have BMs:=am (box_set BMr.out b (oneB xs b));have BLs:=am (box_far BLr.out (p:=⟨b3,b,none⟩) N32.out.symm (.int .u8 (oneB xs b)));have HBs:=am (below_set (j:=b) (v:=.int .u8 (oneB xs b)) (h:=HBr.out) (hg:=GE3.out));rw [range_put (oneB xs) hlt] at BMs;rw [HO.out] at BMs BLs HBs;have hq6:=HBE.out;generalize bstB (cntB xs b 4) 5=q at *
       have em:(q:Int) % 256=(q:Int):=by omega
       clear HCL HBE HO
       go_wp2
       go_roundg (6 - (b + 1))
       case measure=>omega
       case rel=>exact ⟨b + 1,by omega,by omega,by go_num,HBs,BLs,BMs⟩
  ·have:b=6:=by omega
   subst this
   have e6:(List.range 6).map (oneB xs) ++ List.replicate (6 - 6) 0=blurB xs:=by simp [blurB]
   rw [e6] at BMr;have HLB:=am (blurB_len xs);clear e6;obtain ⟨ys,hys⟩:∃ ys,ys=blurB xs:=⟨_,rfl⟩;rw [← hys] at BMr HLB;have HYS:=am hys;clear hys
   go_wp2_with (first|((with_reducible refine gate_dst (N:=56) rfl ?_);refine box_load (k:=.u8) (t:=60) (b:=b3) (xs:=ys) rfl rfl rfl BMr.out Try.underlying60 rfl (by rw [HLB.out];exact HIT.out) ?_)|((with_reducible refine gate_store (t:=60) (p:=2) rfl ?_);refine box_store (k:=.u8) (t:=60) (b:=b2) (xs:=(List.replicate 6 0)) (ys:=ys) rfl rfl rfl rfl rfl BLr.out (by rw [HLB.out];rfl) (by rw [HLB.out];exact HIT.out) ?_;intro w9 hw9;have BL9:=am (show IsBox .u8 60 w9 b2 ys by rw [hw9];exact box_row BLr.out ys);have HB9:=am (show Below w.heap.size w w9 by rw [hw9];exact Go.below_setRow HBr.out GE2.out _);clear hw9))
   refine bodyPost_ret (results_cell_row rfl _ _ b2 60 _ (0,0) _ rfl BL9.out Try.underlying60 rfl (by simpa [nums,HLB.out] using HIT.out)) rfl ?_;exact ⟨by rw [HYS.out],HB9.out⟩
end Go.Proofs.Ytgfknljhogfeaaa.G
end

section
namespace Go.Proofs.Ytgfknljhogfeaaa.G
open Go.RowKit Go.Proofs.YtgfknljhogfeaaaW.PrintWords Go.Proofs.YtgfknljhogfeaaaW.PrintLast Go.Proofs.YtgfknljhogfeaaaW.PrintMore
attribute [local go_sem] max2_int min2_int max_two min_two max_three min_three max_four min_four
set_option linter.unusedVariables false
set_option linter.unusedSimpArgs false
def spec_l05Sights.fits (s0_0:List S68) (c:Int):Bool:=decide (0≤c) && decide (c < (s0_0.length:Int)) && ((arrL68 (rd_T68 s0_0 c)).all fun d=>decide (0≤d) && decide (d < 6))
def spec_l05Sights.see (s0_0:List S68) (c:Int):S61:=arrS61 (blurB (arrL68 (rd_T68 s0_0 c)))
def spec_l05Sights.f (s0_0:List S68) (s0_1:List (List Int)) (a1:Int):Option (List S61):=if 0≤a1∧a1 < (s0_1.length:Int)∧(rd_L2 s0_1 a1).length≤1000000∧(rd_L2 s0_1 a1).all (spec_l05Sights.fits s0_0)=true then some ((rd_L2 s0_1 a1).map (spec_l05Sights.see s0_0)) else none
theorem spec_l05Sights.six (l:List Int) (h:l.length=6):∃ a b c d e f:Int,l=[a,b,c,d,e,f]:=by
 match l,h with
 | [a,b,c,d,e,f],_=>exact ⟨a,b,c,d,e,f,rfl⟩
set_option maxHeartbeats 8000000 in
set_option maxRecDepth 100000 in
theorem spec_l05Sights.calls {g:Nat} (A0:Option Addr) (c0:Nat) (s0_0:List S68) (A1:Option Addr) (c1:Nat) (s0_1:List (List Int)) (a1:Int) (r:List S61) (w:World) (hr0:Kd.C k68 w A0 s0_0.length s0_0) (hc0:s0_0.length≤c0) (hr1:Kd.C (Kd.slice 5 (Kd.int .u8)) w A1 s0_1.length s0_1) (hc1:s0_1.length≤c1) (hb:w.heap[g]?=some (.cells #[.slice A0 s0_0.length c0,.slice A1 s0_1.length c1] 33 (0,0))) (h:spec_l05Sights.f s0_0 s0_1 a1=some r) :
  Calls Try.prog 42 #[.pointer (some ⟨g,0,none⟩),.int .i64 a1] w fun e w'=>∃ v0_:Value,e=.returned (v0_)∧Kd.R k61 61 w' w.heap.size (fun _=>True) v0_ r∧Below w.heap.size w w':=by
 unfold spec_l05Sights.f at h
 by_cases hc:0≤a1∧a1 < (s0_1.length:Int)∧(rd_L2 s0_1 a1).length≤1000000∧(rd_L2 s0_1 a1).all (spec_l05Sights.fits s0_0)=true
 ·rw [if_pos hc] at h;obtain rfl:=Option.some.inj h;clear h;obtain ⟨ha0,ha1,hlx,hfit⟩:=hc;obtain ⟨i,rfl⟩:∃ i:Nat,a1=(i:Int):=⟨a1.toNat,by omega⟩;have HR0:=am hr0;have HR1:=am hr1;have HB:=am (Below.refl w.heap.size w);have HX0:Aside0 (w.cell? ⟨g,0,none⟩=some (.slice A0 s0_0.length c0)):=⟨cellS33_0 hb⟩;have HX1:Aside0 (w.cell? ⟨g,1,none⟩=some (.slice A1 s0_1.length c1)):=⟨cellS33_1 hb⟩;clear hb hr0 hr1 hc0 hc1;obtain ⟨ad,Aw,cw,e0,hx0,hlc,hC1⟩:=at_L2 HR1.out (i:Int) (by omega) (by omega);cases e0;simp only [Int.toNat_natCast] at hx0;have HXW:=am hx0;have HCW:=am hC1;clear hx0 hlc hC1;generalize rd_L2 s0_1 (i:Int)=x at *;have HF:=am hfit;generalize hn0:s0_0.length=m0 at *;have Hn0:=am hn0;generalize hn1:s0_1.length=m1 at *;generalize hnx:x.length=mx at *;have Hnx:=am hnx;clear hfit hn0 hn1 hnx
  go_enter Try.func42,Try.ntmps42
  go_wp2_with ((with_reducible refine gate_dst (N:=7) rfl ?_);refine Kd.R_lit k61 w.heap.size 61 ?hg (N:=7) ?hd (xs:=([]:List S61)) (inner:=[]) (ok:=fun _=>True) (okp:=fun _=>True) ?hr ?hp (fun _ hk=>hk) trivial HB.out (Nat.le_refl _) (by simp) ?_;(case hd=>rfl);(case hg=>rfl);(case hr=>exact zq15);(case hp=>exact (Reps.none _ _));intro v1 w1 ho1 hb1 hg_ hnew_;clear hg_ hnew_;have HO1:=am ho1;have HB1:=am hb1;clear ho1 hb1)
  go_loopg [5,6] (mx + 1) (fun gg s5 s6 wr=>∃ j:Nat,j≤mx∧mx - j≤gg∧s6=.int .i64 j∧Aside0 (Kd.R k61 61 wr w.heap.size (fun _=>True) s5 ((x.take j).map (spec_l05Sights.see s0_0)))∧Aside0 (Below w.heap.size w wr))
  case atStart=>exact ⟨0,by omega,by omega,rfl,HO1,HB1⟩
  case round =>
   clear HO1 HB1 HB;obtain ⟨j,hj,hg2,rfl,HO,HB⟩:=hrel;obtain ⟨Ao,co,eo⟩:=Kd.R_slice HO.out;subst eo;have y0:=(HB.out.cell (World.block_lt_of_cell? w _ HX0.out)).trans HX0.out;have y1:=(HB.out.cell (World.block_lt_of_cell? w _ HX1.out)).trans HX1.out;have y2:=(HB.out.cell (World.block_lt_of_cell? w _ HXW.out)).trans HXW.out
   by_cases hlj:j < mx
   ·have hljz:(j:Int) < (mx:Int):=by omega
    have HJ:=am (show j < x.length by rw [Hnx.out];exact hlj);obtain ⟨ad2,e2,hx2⟩:=Kd.at_int HCW.out (j:Int) (by omega) (by omega);cases e2;simp only [Int.toNat_natCast] at hx2;have y3:=(HB.out.cell (World.block_lt_of_cell? w _ hx2)).trans hx2;have HD:=am (show rd x (j:Int)=x[j]'HJ.out by unfold rd;rw [Int.toNat_natCast,List.getD_eq_getElem?_getD,List.getElem?_eq_getElem HJ.out];rfl)
    have hfc:spec_l05Sights.fits s0_0 (rd x (j:Int))=true:=by rw [HD.out];exact List.all_eq_true.1 HF.out _ (List.getElem_mem _)
    have HS:=am (show (x.take (j + 1)).map (spec_l05Sights.see s0_0)=(x.take j).map (spec_l05Sights.see s0_0) ++ [spec_l05Sights.see s0_0 (rd x (j:Int))] by rw [List.take_succ_eq_append_getElem HJ.out,List.map_append,HD.out];rfl);have HX2:=am hx2;clear hx2;generalize rd x (j:Int)=c at *
    unfold spec_l05Sights.fits at hfc
    simp only [Bool.and_eq_true,decide_eq_true_eq] at hfc;obtain ⟨⟨hc0,hc1⟩,hcv⟩:=hfc;rw [Hn0.out] at hc1;obtain ⟨q,rfl⟩:∃ q:Nat,c=(q:Int):=⟨c.toNat,by omega⟩;obtain ⟨ad3,e3,hcell⟩:=rowA68 HR0.out (show q < m0 by omega);cases e3;have HBL:Aside0 (∀ W:World,Below w.heap.size w W→Calls Try.prog 77 #[.pointer (some (ad3.add (q * 24)))] W fun e w'=>e=.returned (.agg (nums .u8 (blurB (arrL68 (rd_T68 s0_0 (q:Int))))).toArray)∧Below W.heap.size W w'):=⟨fun W hW=>spec_l01Blur.core (ad3.add (q * 24)) (arrL68 (rd_T68 s0_0 (q:Int))) rfl (fun d hd=>by have h_:=List.all_eq_true.1 hcv d hd;simpa using h_) W (fun j hj=>(hW.cell (World.block_lt_of_cell? w _ (hcell j hj))).trans (hcell j hj))⟩;have HLN:=am (blurB_len (arrL68 (rd_T68 s0_0 (q:Int))));have HSE:=am (show spec_l05Sights.see s0_0 (q:Int)=arrS61 (blurB (arrL68 (rd_T68 s0_0 (q:Int)))) from rfl);have HLM:=am (show ((x.take j).map (spec_l05Sights.see s0_0)).length≤1000000 by rw [List.length_map,List.length_take];omega);clear hcell hcv;generalize blurB (arrL68 (rd_T68 s0_0 (q:Int)))=ys at *;generalize spec_l05Sights.see s0_0 (q:Int)=sv at *;generalize (x.take j).map (spec_l05Sights.see s0_0)=out at *;obtain ⟨d0,d1,d2,d3,d4,d5,ey⟩:=spec_l05Sights.six ys HLN.out;subst ey;have HSV:=am (show sv=(⟨d0,d1,d2,d3,d4,d5⟩:S61) from HSE.out);clear HSE HLN;have HBL':Aside0 (∀ W:World,Below w.heap.size w W→Calls Try.prog 77 #[.pointer (some (ad3.add (q * 24)))] W fun e w'=>e=.returned (.agg #[.int .u8 d0,.int .u8 d1,.int .u8 d2,.int .u8 d3,.int .u8 d4,.int .u8 d5])∧Below W.heap.size W w'):=HBL;clear HBL;have n0_:=am (Kd.R_drew HO.out);have n1_:=am (below_drew1 HB.out);have hqz:(q:Int) < (m0:Int):=hc1
    go_wp2
    clear HO HB y0 y1 y2 y3;refine start_ (n:=20) (S:=fun w'=>w'.cell? ⟨g,0,none⟩=some (.slice (some ad3) m0 c0)∧w'.cell? ⟨g,1,none⟩=some (.slice (some ad) m1 c1)∧w'.cell? (ad.add i)=some (.slice (some ad2) mx cw)∧w'.cell? (ad2.add j)=some (.int .u8 (q:Int))) (ds:=[]) #[false,false,false,false,false,false,false,false,false,false,false,false,false,false,false,false,false,false,false,false] zq16 rfl rfl ⟨(n1_.out.cell (World.block_lt_of_cell? w _ HX0.out)).trans HX0.out,(n1_.out.cell (World.block_lt_of_cell? w _ HX1.out)).trans HX1.out,(n1_.out.cell (World.block_lt_of_cell? w _ HXW.out)).trans HXW.out,(n1_.out.cell (World.block_lt_of_cell? w _ HX2.out)).trans HX2.out⟩ (fun hHeld=>?_);generalize wr.drew=wd at n0_ n1_ hHeld ⊢;have HO:=n0_;have HB:=n1_;clear n0_ n1_;refine pure_ (i:=0) (N:=some 20) (v:=?_) (a':=?_) #[true,false,false,false,false,false,false,false,false,false,false,false,false,false,false,false,false,false,false,false] rfl rfl zq16 (fun _ _ _ h=>h) (Or.inl ⟨by rfl,?_⟩) ?_ ?_;rotate_left
    ·intro w';go_simp;with_reducible rfl
    rotate_left
    ·simp only [Act.put,List.setIfInBounds_toArray,List.set_cons_zero,List.set_cons_succ,i64_w,i32_w];rfl
    refine pure_ (i:=1) (N:=some 21) (v:=?_) (a':=?_) #[true,true,false,false,false,false,false,false,false,false,false,false,false,false,false,false,false,false,false,false] rfl rfl zq16 (fun _ _ _ h=>h) (Or.inl ⟨by rfl,?_⟩) ?_ ?_;rotate_left
    ·intro w';go_simp;with_reducible rfl
    rotate_left
    ·simp only [Act.put,List.setIfInBounds_toArray,List.set_cons_zero,List.set_cons_succ,i64_w,i32_w];rfl
    refine pure_ (i:=2) (N:=some 22) (v:=?_) (a':=?_) #[true,true,true,false,false,false,false,false,false,false,false,false,false,false,false,false,false,false,false,false] rfl rfl zq16 (fun _ _ _ h=>h) (Or.inl ⟨by rfl,?_⟩) ?_ ?_;rotate_left
    ·intro w';go_simp;with_reducible rfl
    rotate_left
    ·simp only [Act.put,List.setIfInBounds_toArray,List.set_cons_zero,List.set_cons_succ,i64_w,i32_w];rfl
    refine pure_ (i:=3) (N:=some 23) (v:=?_) (a':=?_) #[true,true,true,true,false,false,false,false,false,false,false,false,false,false,false,false,false,false,false,false] rfl rfl zq16 (fun _ _ _ h=>h) (Or.inl ⟨by rfl,?_⟩) ?_ ?_;rotate_left
    ·intro w';go_simp;with_reducible rfl
    rotate_left
    ·simp only [Act.put,List.setIfInBounds_toArray,List.set_cons_zero,List.set_cons_succ,i64_w,i32_w];rfl
    refine pure_ (i:=5) (N:=some 25) (v:=?_) (a':=?_) #[true,true,true,true,false,true,false,false,false,false,false,false,false,false,false,false,false,false,false,false] rfl rfl zq16 (fun _ _ _ h=>h) (Or.inl ⟨by rfl,?_⟩) ?_ ?_;rotate_left
    ·intro w';go_simp;with_reducible rfl
    rotate_left
    ·simp only [Act.put,List.setIfInBounds_toArray,List.set_cons_zero,List.set_cons_succ,i64_w,i32_w];rfl
    refine pure_ (i:=6) (N:=some 26) (v:=?_) (a':=?_) #[true,true,true,true,false,true,true,false,false,false,false,false,false,false,false,false,false,false,false,false] rfl rfl zq16 (fun _ _ _ h=>h) (Or.inl ⟨by rfl,?_⟩) ?_ ?_;rotate_left
    ·intro w';go_simp;with_reducible rfl
    rotate_left
    ·simp only [Act.put,List.setIfInBounds_toArray,List.set_cons_zero,List.set_cons_succ,i64_w,i32_w];rfl
    refine pure_ (i:=7) (N:=some 27) (v:=?_) (a':=?_) #[true,true,true,true,false,true,true,true,false,false,false,false,false,false,false,false,false,false,false,false] rfl rfl zq16 (fun _ _ _ h=>h) (Or.inl ⟨by rfl,?_⟩) ?_ ?_;rotate_left
    ·intro w';go_simp;with_reducible rfl
    rotate_left
    ·simp only [Act.put,List.setIfInBounds_toArray,List.set_cons_zero,List.set_cons_succ,i64_w,i32_w];rfl
    refine pure_ (i:=9) (N:=some 29) (v:=?_) (a':=?_) #[true,true,true,true,false,true,true,true,false,true,false,false,false,false,false,false,false,false,false,false] rfl rfl zq16 (fun _ _ _ h=>h) (Or.inl ⟨by rfl,?_⟩) ?_ ?_;rotate_left
    ·intro w';go_simp;with_reducible rfl
    rotate_left
    ·simp only [Act.put,List.setIfInBounds_toArray,List.set_cons_zero,List.set_cons_succ,i64_w,i32_w];rfl
    refine pure_ (i:=12) (N:=some 32) (v:=?_) (a':=?_) #[true,true,true,true,false,true,true,true,false,true,false,false,true,false,false,false,false,false,false,false] rfl rfl zq16 (fun _ _ _ h=>h) (Or.inl ⟨by rfl,?_⟩) ?_ ?_;rotate_left
    ·intro w';go_simp;with_reducible rfl
    rotate_left
    ·simp only [Act.put,List.setIfInBounds_toArray,List.set_cons_zero,List.set_cons_succ,i64_w,i32_w];rfl
    refine take_ (i:=4) (N:=some 24) (v:=?_) (a':=?_) #[true,true,true,true,true,true,true,true,false,true,false,false,true,false,false,false,false,false,false,false] rfl rfl zq16 (fun _ _ _ h=>h) (Or.inl ⟨by rfl,?_⟩) hHeld ?_ ?_;rotate_left
    ·rintro w' ⟨s0,s1,s2,s3⟩
     go_simp;with_reducible rfl
    rotate_left
    ·simp only [Act.put,List.setIfInBounds_toArray,List.set_cons_zero,List.set_cons_succ,i64_w,i32_w];rfl
    refine take_ (i:=8) (N:=some 28) (v:=?_) (a':=?_) #[true,true,true,true,true,true,true,true,true,true,false,false,true,false,false,false,false,false,false,false] rfl rfl zq16 (fun _ _ _ h=>h) (Or.inl ⟨by rfl,?_⟩) hHeld ?_ ?_;rotate_left
    ·rintro w' ⟨s0,s1,s2,s3⟩
     go_simp;with_reducible rfl
    rotate_left
    ·simp only [Act.put,List.setIfInBounds_toArray,List.set_cons_zero,List.set_cons_succ,i64_w,i32_w];rfl
    refine pure_ (i:=10) (N:=some 30) (v:=?_) (a':=?_) #[true,true,true,true,true,true,true,true,true,true,true,false,true,false,false,false,false,false,false,false] rfl rfl zq16 (fun _ _ _ h=>h) (Or.inl ⟨by rfl,?_⟩) ?_ ?_;rotate_left
    ·intro w';go_simp;with_reducible rfl
    rotate_left
    ·simp only [Act.put,List.setIfInBounds_toArray,List.set_cons_zero,List.set_cons_succ,i64_w,i32_w];rfl
    refine take_ (i:=11) (N:=some 31) (v:=?_) (a':=?_) #[true,true,true,true,true,true,true,true,true,true,true,true,true,false,false,false,false,false,false,false] rfl rfl zq16 (fun _ _ _ h=>h) (Or.inl ⟨by rfl,?_⟩) hHeld ?_ ?_;rotate_left
    ·rintro w' ⟨s0,s1,s2,s3⟩
     go_simp;with_reducible rfl
    rotate_left
    ·simp only [Act.put,List.setIfInBounds_toArray,List.set_cons_zero,List.set_cons_succ,i64_w,i32_w];rfl
    refine pure_ (i:=13) (N:=some 33) (v:=?_) (a':=?_) #[true,true,true,true,true,true,true,true,true,true,true,true,true,true,false,false,false,false,false,false] rfl rfl zq16 (fun _ _ _ h=>h) (Or.inl ⟨by rfl,?_⟩) ?_ ?_;rotate_left
    ·intro w';go_simp;with_reducible rfl
    rotate_left
    ·simp only [Act.put,List.setIfInBounds_toArray,List.set_cons_zero,List.set_cons_succ,i64_w,i32_w];rfl
    refine take_ (i:=14) (N:=some 34) (v:=?_) (a':=?_) #[true,true,true,true,true,true,true,true,true,true,true,true,true,true,true,false,false,false,false,false] rfl rfl zq16 (fun _ _ _ h=>h) (Or.inl ⟨by rfl,?_⟩) hHeld ?_ ?_;rotate_left
    ·rintro w' ⟨s0,s1,s2,s3⟩
     go_simp;with_reducible rfl
    rotate_left
    ·simp only [Act.put,List.setIfInBounds_toArray,List.set_cons_zero,List.set_cons_succ,i64_w,i32_w];rfl
    refine pure_ (i:=15) (N:=some 35) (v:=?_) (a':=?_) #[true,true,true,true,true,true,true,true,true,true,true,true,true,true,true,true,false,false,false,false] rfl rfl zq16 (fun _ _ _ h=>h) (Or.inl ⟨by rfl,?_⟩) ?_ ?_;rotate_left
    ·intro w';go_simp;with_reducible rfl
    rotate_left
    ·simp only [Act.put,List.setIfInBounds_toArray,List.set_cons_zero,List.set_cons_succ,i64_w,i32_w];rfl
    refine one_ (i:=16) (N:=some 36) #[true,true,true,true,true,true,true,true,true,true,true,true,true,true,true,true,true,false,false,false] rfl rfl zq16 (by decide) (fun K hK=>?_);refine goes_ Try.func77 zq16 rfl #[.pointer (some (ad3.add (q * 24)))] (by rfl) rfl rfl zq82 ?_;refine (HBL'.out _ HB.out).mono ?_
    rintro e w3 ⟨rfl,hb⟩
    refine ⟨_,rfl,?_⟩;have n0_:=am (Kd.R_below HO.out hb);have n1_:=am (below_step HB.out hb);clear HO HB hb;have HO:=n0_;have HB:=n1_;clear n0_ n1_;refine hK.out _ _ ⟨(HB.out.cell (World.block_lt_of_cell? w _ HX0.out)).trans HX0.out,(HB.out.cell (World.block_lt_of_cell? w _ HX1.out)).trans HX1.out,(HB.out.cell (World.block_lt_of_cell? w _ HXW.out)).trans HXW.out,(HB.out.cell (World.block_lt_of_cell? w _ HX2.out)).trans HX2.out⟩ (fun hHeld=>?_);clear hK K;refine norm_ (a':=?_) ?_ ?_;rotate_left
    ·show Act.put _ (some 36) _=_
     simp only [Act.put,List.setIfInBounds_toArray,List.set_cons_zero,List.set_cons_succ,i64_w,i32_w];rfl
    refine one_ (i:=17) (N:=some 37) #[true,true,true,true,true,true,true,true,true,true,true,true,true,true,true,true,true,true,false,false] rfl rfl zq16 (by decide) (fun K hK=>?_);refine value_ (w1:=?_) (v:=?_) (by rfl) rfl ?_ ?_;rotate_left 2
    ·go_simp
     constructor
     ·rfl
     ·rfl
    refine hK.out _ _ ⟨((below_alloc HB.out _).cell (World.block_lt_of_cell? w _ HX0.out)).trans HX0.out,((below_alloc HB.out _).cell (World.block_lt_of_cell? w _ HX1.out)).trans HX1.out,((below_alloc HB.out _).cell (World.block_lt_of_cell? w _ HXW.out)).trans HXW.out,((below_alloc HB.out _).cell (World.block_lt_of_cell? w _ HX2.out)).trans HX2.out⟩ (fun hHeld=>?_);clear hK K;refine norm_ (a':=?_) ?_ ?_;rotate_left
    ·show Act.put _ (some 37) _=_
     simp only [Act.put,List.setIfInBounds_toArray,List.set_cons_zero,List.set_cons_succ,i64_w,i32_w];rfl
    refine one_ (i:=18) (N:=some 38) #[true,true,true,true,true,true,true,true,true,true,true,true,true,true,true,true,true,true,true,false] rfl rfl zq16 (by decide) (fun K hK=>?_);refine Kd.R_append_step k61 (w0:=w) w.heap.size (by rfl) (.tmp 20) (.tmp 37) 27 61 (.agg #[(.int .u8 0),(.int .u8 0),(.int .u8 0),(.int .u8 0),(.int .u8 0),(.int .u8 0)]) 6 (by rfl) Try.underlying27 info61 rfl (by decide) (by omega) _ out (⟨d0,d1,d2,d3,d4,d5⟩:S61) [.int .u8 d0,.int .u8 d1,.int .u8 d2,.int .u8 d3,.int .u8 d4,.int .u8 d5] (fun _=>True) (fun _=>False) (by rfl) (by rfl) ?aP (fun _ hk=>hk.elim) ?aF ?aO ?aB ?aS ?aL ?_;(case aP=>exact k61_mkM _ _ _ (⟨d0,d1,d2,d3,d4,d5⟩:S61));(case aF=>exact fun _ _=>trivial);(case aO=>exact HO.out);(case aB=>exact HB.out);(case aS=>exact below_size HB.out);(case aL=>have:=HLM.out;omega);intro v1 w5 ho hb _ _;have n0_:=am ho;have n1_:=am hb;clear HO HB ho hb;have HO:=n0_;have HB:=n1_;clear n0_ n1_;refine hK.out _ _ ⟨(HB.out.cell (World.block_lt_of_cell? w _ HX0.out)).trans HX0.out,(HB.out.cell (World.block_lt_of_cell? w _ HX1.out)).trans HX1.out,(HB.out.cell (World.block_lt_of_cell? w _ HXW.out)).trans HXW.out,(HB.out.cell (World.block_lt_of_cell? w _ HX2.out)).trans HX2.out⟩ (fun hHeld=>?_);clear hK K;refine norm_ (a':=?_) ?_ ?_;rotate_left
    ·show Act.put _ (some 38) _=_
     simp only [Act.put,List.setIfInBounds_toArray,List.set_cons_zero,List.set_cons_succ,i64_w,i32_w];rfl
    refine pure_ (i:=19) (N:=some 5) (v:=?_) (a':=?_) #[true,true,true,true,true,true,true,true,true,true,true,true,true,true,true,true,true,true,true,true] rfl rfl zq16 (fun _ _ _ h=>h) (Or.inl ⟨by rfl,?_⟩) ?_ ?_;rotate_left
    ·intro w';go_simp;with_reducible rfl
    rotate_left
    ·simp only [Act.put,List.setIfInBounds_toArray,List.set_cons_zero,List.set_cons_succ,i64_w,i32_w];rfl
    refine done_ zq16 ?_
    go_wp2
    go_roundg (mx - (j + 1))
    case measure=>omega
    case rel=>exact ⟨j + 1,by omega,Nat.le_refl _,by first|rfl|(go_simp;done)|(simp [IntKind.wrap_i64];omega),⟨by rw [HS.out,HSV.out];exact HO.out⟩,HB⟩
   ·have hlj':¬ (j:Int) < (mx:Int):=by omega
    have ex:x.take j=x:=List.take_of_length_le (by have:=Hnx.out;omega);rw [ex] at HO ⊢;generalize hL:(x.map (spec_l05Sights.see s0_0)).length=nl at HO ⊢;clear hL
    go_wp2
    go_ret
    exact ⟨_,rfl,HO.out,HB.out⟩
 ·rw [if_neg hc] at h;cases h
end Go.Proofs.Ytgfknljhogfeaaa.G
end

section
namespace Go.Proofs.Ytgfknljhogfeaaa.G
open Go.RowKit Go.Proofs.YtgfknljhogfeaaaW.PrintWords Go.Proofs.YtgfknljhogfeaaaW.PrintLast Go.Proofs.YtgfknljhogfeaaaW.PrintMore
attribute [local go_sem] max2_int min2_int max_two min_two max_three min_three max_four min_four
set_option linter.unusedVariables false
set_option linter.unusedSimpArgs false
mutual
def spec_CandidatesFor.j0:Nat→List (S61)→Int→Bool→List (S68)→List (List Int)→Option (List Int × Int)
 | 0,_,_,_,_,_=>none
 | k + 1,x1,x2,x16,x102000,x102001=>if x16=true then (some ((([]:List Int)),1)) else ((spec_l00In.f x2 0 48).bind fun t107=>(if t107=true then (if (x102001.length:Int) > 0 then (if 0 < (x102001.length:Int) then (spec_CandidatesFor.j1 k x1 x2 ((x1.length:Int) != ((rd_L2 x102001 0).length:Int)) x102000 x102001) else (none)) else (spec_CandidatesFor.j1 k x1 x2 false x102000 x102001)) else (spec_CandidatesFor.j1 k x1 x2 true x102000 x102001)))
def spec_CandidatesFor.j1:Nat→List (S61)→Int→Bool→List (S68)→List (List Int)→Option (List Int × Int)
 | 0,_,_,_,_,_=>none
 | k + 1,x1,x2,x36,x102000,x102001=>if x36=true then (some ((([]:List Int)),2)) else (spec_CandidatesFor.l0 k x1 x2 (([]:List Int)) 0 x102000 x102001)
def spec_CandidatesFor.l0:Nat→List (S61)→Int→List Int→Int→List (S68)→List (List Int)→Option (List Int × Int)
 | 0,_,_,_,_,_,_=>none
 | k + 1,x1,x2,x8,x9,x102000,x102001=>if x9 < (x102001.length:Int) then ((spec_l05Sights.f x102000 x102001 x9).bind fun t115=>((spec_l05Far.f t115 x1).bind fun t118=>(if t118≤x2 then (if x8.length < 17592186044416 then (spec_CandidatesFor.l0 k x1 x2 (x8 ++ [x9]) (wrap64 (x9 + 1)) x102000 x102001) else (none)) else (spec_CandidatesFor.l0 k x1 x2 x8 (wrap64 (x9 + 1)) x102000 x102001)))) else (some (x8,0))
end
def spec_CandidatesFor.f (k:Nat) (l0_0:List (S68)) (l0_1:List (List Int)) (l1:List (S61)) (a2:Int):Option (List Int × Int):=(spec_l05Ok.f k l0_0 l0_1).bind fun t102=>(if t102=true then ((spec_l05Seen.f l1).bind fun t103=>(spec_CandidatesFor.j0 k l1 a2 (!t103) l0_0 l0_1)) else (spec_CandidatesFor.j0 k l1 a2 true l0_0 l0_1))
set_option maxHeartbeats 8000000 in
set_option maxRecDepth 100000 in
theorem spec_CandidatesFor.calls (k:Nat) (A0_0:Option Addr) (c0_0:Nat) (l0_0:List (S68)) (A0_1:Option Addr) (c0_1:Nat) (l0_1:List (List Int)) (A1:Option Addr) (c1:Nat) (l1:List (S61)) (a2:Int) (r1:List Int) (r2:Int) (w:World) (hr0_0:Kd.C k68 w A0_0 l0_0.length l0_0) (hc0_0:l0_0.length≤c0_0) (hr0_1:Kd.C (Kd.slice 5 (Kd.int .u8)) w A0_1 l0_1.length l0_1) (hc0_1:l0_1.length≤c0_1) (hr1:Kd.C k61 w A1 l1.length l1) (hc1:l1.length≤c1) (h:spec_CandidatesFor.f k l0_0 l0_1 l1 a2=some (r1,r2)) :
  Calls Try.prog 23 #[.agg #[.slice A0_0 l0_0.length c0_0,.slice A0_1 l0_1.length c0_1],.slice A1 l1.length c1,.int .i64 a2] w fun e w'=>∃ v0_:Value,e=.returned (.tuple #[v0_,.int .i64 r2])∧Kd.R (Kd.int .i64) 2 w' w.heap.size (fun _=>True) v0_ r1∧Below w.heap.size w w':=by
 have hu33:=Try.underlying33;have HR0_0:=am hr0_0;have HC0_0:=am hc0_0;clear hr0_0 hc0_0;have HR0_1:=am hr0_1;have HC0_1:=am hc0_1;clear hr0_1 hc0_1;have HR1:=am hr1;have HC1:=am hc1;clear hr1 hc1;have HB:=am (Below.refl w.heap.size w);have H:((spec_l05Ok.f k l0_0 l0_1).bind fun t102=>(if t102=true then ((spec_l05Seen.f l1).bind fun t103=>(spec_CandidatesFor.j0 k l1 a2 (!t103) l0_0 l0_1)) else (spec_CandidatesFor.j0 k l1 a2 true l0_0 l0_1)))=some (r1,r2):=h;clear h;have HC4:=am H;clear H
 go_enter Try.func23,Try.ntmps23
 go_upto_region 1 with (first|((with_reducible refine gate_dst (N:=3) rfl ?_);(try (refine gate_guard (by rfl) ?_;dsimp only));refine box_event ?hg (N:=3) ?hd (cs:=#[.slice A0_0 l0_0.length c0_0,.slice A0_1 l0_1.length c0_1]) (t:=33) ?hr ?_;(case hd=>rfl);(case hg=>rfl);(case hr=>exact zq15);intro gb101 hg w5 hbox hb;have n0_:=am (below_step zq2 hb);have n1_:=am (hbox);have n2_:=am ((by rw [hg];exact (below_size zq2):w.heap.size≤gb101));have n3_:=am ((by rw [hg];exact (below_size zq2):w.heap.size≤gb101));clear HB;have HB:=n0_;have BK101:=n1_;have GW101:=n2_;have GE101:=n3_;clear n0_ n1_ n2_ n3_;clear hb hbox hg))
 (try simp only [Act.put,List.setIfInBounds_toArray,List.set_cons_zero,List.set_cons_succ])
 go_cut [16] (fun v16 wc=>∃ (kq:Nat) (x16_3:Bool),v16=.bool x16_3∧Aside0 (spec_CandidatesFor.j0 kq l1 a2 x16_3 l0_0 l0_1=some (r1,r2))∧Aside0 (kq≤k)∧Aside0 (wc.heap[gb101]?=some (.cells #[(.slice A0_0 l0_0.length c0_0),(.slice A0_1 l0_1.length c0_1)] 33 (0,0)))∧Aside0 (Below w.heap.size w wc))
 case first =>
  have H:=HC4.out;clear HC4;replace H:=Option.bind_eq_some_iff.mp H;obtain ⟨t102,A60,H⟩:=H;replace H:(if t102=true then ((spec_l05Seen.f l1).bind fun t103=>(spec_CandidatesFor.j0 k l1 a2 (!t103) l0_0 l0_1)) else (spec_CandidatesFor.j0 k l1 a2 true l0_0 l0_1))=some (r1,r2):=H;have A6:=am A60;clear A60
  by_cases c7:t102=true
  ·subst c7
   have H1:((spec_l05Seen.f l1).bind fun t103=>(spec_CandidatesFor.j0 k l1 a2 (!t103) l0_0 l0_1))=some (r1,r2):=by rw [if_pos rfl] at H;exact H
   clear H;have H:=H1;clear H1;replace H:=Option.bind_eq_some_iff.mp H;obtain ⟨t103,A80,H⟩:=H;replace H:(spec_CandidatesFor.j0 k l1 a2 (!t103) l0_0 l0_1)=some (r1,r2):=H;have A8:=am A80;clear A80;have H':=am H;clear H
   go_wp2_with (first|((with_reducible refine gate_callee (f:=40) rfl ?_);refine goesL_ (some 10) rfl rfl Try.func40 zq16 rfl #[.pointer (some ⟨gb101,0,none⟩)] rfl zq0 ?_;(with_reducible refine (spec_l05Ok.calls k A0_0 c0_0 l0_0 A0_1 c0_1 l0_1 true _ ?side1 ?side2 ?side3 ?side4 ?side5 A6.out).mono ?_);(case side1=>exact zq6);(case side2=>exact HC0_0.out);(case side3=>exact zq7);(case side4=>exact HC0_1.out);(case side5=>exact zq4);rintro e w9 ⟨rfl,hb⟩;refine ⟨_,rfl,?_⟩;have n0_:=am (blk_below (g:=gb101) (o:=.cells #[.slice A0_0 l0_0.length c0_0,.slice A0_1 l0_1.length c0_1] 33 (0,0)) zq4 hb);have n1_:=am (below_step zq1 hb);clear BK101;clear HB;have BK101:=n0_;have HB:=n1_;clear n0_ n1_;(try clear hb);(try clear hb2);(try clear hk);(try clear hi))|(go_at_call 57;(with_reducible refine (spec_l05Seen.calls _ _ l1 t103 _ ?side1 ?side2 A8.out).mono ?_);(case side1=>exact zq14);(case side2=>exact HC1.out);rintro e w' ⟨rfl,⟨nd,rfl⟩⟩))
   go_meet
   case rel=>exact ⟨_,(!t103),zq3,H',⟨by first|omega|exact Nat.le_refl _⟩,⟨by (with_reducible repeat (first|refine blk_drewN ?_ _|refine blk_drew ?_|refine blk_alloc ?_ _));exact BK101.out⟩,⟨by repeat (first|(with_reducible first|exact HB.out|apply below_alloc|apply pw_below_drewN|apply below_drew1|refine below_set ?_ GE101.out)|exact HB.out)⟩⟩
  ·replace c7:=Bool.eq_false_iff.mpr c7;subst c7
   have H1:(spec_CandidatesFor.j0 k l1 a2 true l0_0 l0_1)=some (r1,r2):=by rw [if_neg (show ¬ (false=true) by decide)] at H;exact H
   clear H;have H:=H1;clear H1;have H':=am H;clear H
   go_wp2_with (first|((with_reducible refine gate_callee (f:=40) rfl ?_);refine goesL_ (some 10) rfl rfl Try.func40 zq16 rfl #[.pointer (some ⟨gb101,0,none⟩)] rfl zq0 ?_;(with_reducible refine (spec_l05Ok.calls k A0_0 c0_0 l0_0 A0_1 c0_1 l0_1 false _ ?side1 ?side2 ?side3 ?side4 ?side5 A6.out).mono ?_);(case side1=>exact zq6);(case side2=>exact HC0_0.out);(case side3=>exact zq7);(case side4=>exact HC0_1.out);(case side5=>exact zq4);rintro e w10 ⟨rfl,hb⟩;refine ⟨_,rfl,?_⟩;have n0_:=am (blk_below (g:=gb101) (o:=.cells #[.slice A0_0 l0_0.length c0_0,.slice A0_1 l0_1.length c0_1] 33 (0,0)) zq4 hb);have n1_:=am (below_step zq1 hb);clear BK101;clear HB;have BK101:=n0_;have HB:=n1_;clear n0_ n1_;(try clear hb);(try clear hb2);(try clear hk);(try clear hi)))
   go_meet
   case rel=>exact ⟨_,(true),zq3,H',⟨by first|omega|exact Nat.le_refl _⟩,⟨by (with_reducible repeat (first|refine blk_drewN ?_ _|refine blk_drew ?_|refine blk_alloc ?_ _));exact BK101.out⟩,⟨by repeat (first|(with_reducible first|exact HB.out|apply below_alloc|apply pw_below_drewN|apply below_drew1|refine below_set ?_ GE101.out)|exact HB.out)⟩⟩
 case rest =>
  clear HC4;(try clear c1);(try clear c2);(try clear p2);(try clear c4);(try clear c7);obtain ⟨kq,x16_3,rfl,HA,HJ3,BK101,HB⟩:=hcut
  cases kq with
  | zero=>exact absurd HA.out (by simp [spec_CandidatesFor.j0])
  | succ kj3 =>
   have H:=HA.out;clear HA;simp only [spec_CandidatesFor.j0] at H
   by_cases c11:x16_3=true
   ·subst c11
    have H1:(some ((([]:List Int)),1))=some (r1,r2):=by rw [if_pos rfl] at H;exact H
    clear H;have H:=H1;clear H1;obtain ⟨y104,hy104⟩:∃ y_:List Int,y_=(([]:List Int)):=⟨_,rfl⟩
    replace H:(some (y104,1))=some (r1,r2):=by first|(rw [hy104];with_reducible exact H)|(have H2_:=(Option.bind_some _ _).symm.trans H;rw [hy104];with_reducible exact H2_)|(have H2_:=(Option.bind_some _ _).symm.trans H;with_reducible exact H2_)|with_reducible exact H|(rw [hy104];exact H)|exact H
    have Ny104:=am hy104;clear hy104;simp only [Option.some.injEq,Prod.mk.injEq] at H;obtain ⟨rfl,rfl⟩:=H
    go_wp2_with (first|((with_reducible refine gate_dst (N:=17) rfl ?_);(try (refine gate_guard (by rfl) ?_;dsimp only));refine Kd.R_lit (Kd.int .i64) _ 2 ?hg (N:=17) ?hd (xs:=([]:List Int)) (inner:=[]) (ok:=fun _=>True) (okp:=fun _=>True) ?hr ?hp (fun _ hk=>hk) trivial (Below.refl _ _) (Nat.le_refl _) (by simp) ?_;(case hd=>rfl);(case hg=>rfl);(case hr=>exact zq15);(case hp=>exact (Reps.none _ _));intro v105 w12 ho13 hb hg_ hnew_;clear hg_ hnew_;(first|rw [← Ny104.out] at ho13|(simp only [Int.reduceToNat] at ho13;rw [← Ny104.out] at ho13));have n0_:=am (Kd.R_lower ho13 (below_size zq1));have n1_:=am (blk_below (g:=gb101) (o:=.cells #[.slice A0_0 l0_0.length c0_0,.slice A0_1 l0_1.length c0_1] 33 (0,0)) zq4 hb);have n2_:=am (below_step zq1 hb);clear BK101;clear HB;have HO106:=n0_;have BK101:=n1_;have HB:=n2_;clear n0_ n1_ n2_;clear hb ho13))
    go_ret2
    exact ⟨_,by first|rfl|(simp [errW_none,errW_some,IntKind.wrap_i64,wrap64];done)|(simp [errW_none,errW_some] <;> rfl)|(simp [*,errW_none,errW_some] <;> rfl),by (with_reducible repeat (first|apply Kd.R_alloc|apply Kd.R_drewN|apply Kd.R_drew));exact HO106.out,by repeat (first|(with_reducible first|exact HB.out|apply below_alloc|apply pw_below_drewN|apply below_drew1|refine below_set ?_ GE101.out)|exact HB.out)⟩
   ·replace c11:=Bool.eq_false_iff.mpr c11;subst c11
    have H1:((spec_l00In.f a2 0 48).bind fun t107=>(if t107=true then (if (l0_1.length:Int) > 0 then (if 0 < (l0_1.length:Int) then (spec_CandidatesFor.j1 kj3 l1 a2 ((l1.length:Int) != ((rd_L2 l0_1 0).length:Int)) l0_0 l0_1) else (none)) else (spec_CandidatesFor.j1 kj3 l1 a2 false l0_0 l0_1)) else (spec_CandidatesFor.j1 kj3 l1 a2 true l0_0 l0_1)))=some (r1,r2):=by rw [if_neg (show ¬ (false=true) by decide)] at H;exact H
    clear H;have H:=H1;clear H1;have HC14:=am H;clear H
    go_upto_region 3 with (fail)
    go_cut [36] (fun v36 wc=>∃ (kq:Nat) (x36_13:Bool),v36=.bool x36_13∧Aside0 (spec_CandidatesFor.j1 kq l1 a2 x36_13 l0_0 l0_1=some (r1,r2))∧Aside0 (kq≤kj3)∧Aside0 (wc.heap[gb101]?=some (.cells #[(.slice A0_0 l0_0.length c0_0),(.slice A0_1 l0_1.length c0_1)] 33 (0,0)))∧Aside0 (Below w.heap.size w wc))
    case first =>
     have H:=HC14.out;clear HC14;replace H:=Option.bind_eq_some_iff.mp H;obtain ⟨t107,A150,H⟩:=H;replace H:(if t107=true then (if (l0_1.length:Int) > 0 then (if 0 < (l0_1.length:Int) then (spec_CandidatesFor.j1 kj3 l1 a2 ((l1.length:Int) != ((rd_L2 l0_1 0).length:Int)) l0_0 l0_1) else (none)) else (spec_CandidatesFor.j1 kj3 l1 a2 false l0_0 l0_1)) else (spec_CandidatesFor.j1 kj3 l1 a2 true l0_0 l0_1))=some (r1,r2):=H;have A15:=am A150;clear A150
     by_cases c16:t107=true
     ·subst c16
      have H1:(if (l0_1.length:Int) > 0 then (if 0 < (l0_1.length:Int) then (spec_CandidatesFor.j1 kj3 l1 a2 ((l1.length:Int) != ((rd_L2 l0_1 0).length:Int)) l0_0 l0_1) else (none)) else (spec_CandidatesFor.j1 kj3 l1 a2 false l0_0 l0_1))=some (r1,r2):=by rw [if_pos rfl] at H;exact H
      clear H;have H:=H1;clear H1
      by_cases c17:(l0_1.length:Int) > 0
      ·rw [if_pos c17] at H;have c17b0:decide (0 < (l0_1.length:Int))=true:=decide_eq_true c17;have c17b1:decide (0 < l0_1.length)=true:=decide_eq_true (by omega);clear c17;(first|rw [c17b0]|(simp only [i64_w,i32_w];rw [c17b0])|skip)
       by_cases c18:0 < (l0_1.length:Int)
       ·rw [if_pos c18] at H;have c18b0:decide (0 < (l0_1.length:Int))=true:=decide_eq_true c18;have c18b1:decide (0 < l0_1.length)=true:=decide_eq_true (by omega);clear c18;have H':=am H;clear H
        go_wp2_with (first|((with_reducible refine gate_callee (f:=41) rfl ?_);refine goesL_ (some 19) rfl rfl Try.func41 zq16 rfl #[.int .i64 a2,.int .i64 0,.int .i64 48] rfl zq0 ?_;(with_reducible refine (spec_l00In.calls a2 0 48 true _ A15.out).mono ?_);rintro e w' ⟨rfl,⟨nd,rfl⟩⟩;refine ⟨_,rfl,?_⟩;have hcz19_0:wc.cell? ⟨gb101,0,none⟩=some (.slice A0_0 l0_0.length c0_0):=(blk_cell BK101.out 0).trans rfl;have hcz19_1:wc.cell? ⟨gb101,1,none⟩=some (.slice A0_1 l0_1.length c0_1):=(blk_cell BK101.out 1).trans rfl;have hfz19_0:=blk_frozen BK101.out 0;have hfz19_1:=blk_frozen BK101.out 1;have p108:0≤(0:Int):=(by omega);have q108:0 < (l0_1.length:Int):=of_decide_eq_true zq9;obtain ⟨ad108,A108_0,c108_0,e108,hx108_0,hl108_0,hi108_0⟩:=at_L2 HR0_1.out 0 p108 q108;cases e108;have qi108:(0 < l0_1.length)=True:=eq_true (by omega);(try rw [show ((0:Int)).toNat=0 from rfl] at hx108_0);(try rw [Addr.add_zero'] at hx108_0);replace hx108_0:=(HB.out.cell (World.block_lt_of_cell? w _ hx108_0)).trans hx108_0;have HR108_0:=am hi108_0;have HC108_0:=am hl108_0;clear hi108_0 hl108_0;replace p108:=eq_true p108;replace q108:=eq_true q108))
        go_meet
        case rel=>exact ⟨_,(((l1.length:Int) != ((rd_L2 l0_1 0).length:Int))),zq3,H',⟨by have:=HJ3.out;first|omega|exact Nat.le_refl _⟩,⟨by (with_reducible repeat (first|refine blk_drewN ?_ _|refine blk_drew ?_|refine blk_alloc ?_ _));exact BK101.out⟩,⟨by repeat (first|(with_reducible first|exact HB.out|apply below_alloc|apply pw_below_drewN|apply below_drew1|refine below_set ?_ GE101.out)|exact HB.out)⟩⟩
       ·rw [if_neg c18] at H;exact absurd H (by simp)
      ·rw [if_neg c17] at H;have c17b0:decide (0 < (l0_1.length:Int))=false:=decide_eq_false c17;have c17b1:decide (0 < l0_1.length)=false:=decide_eq_false (by omega);clear c17;(first|rw [c17b0]|(simp only [i64_w,i32_w];rw [c17b0])|skip);have H':=am H;clear H
       go_wp2_with (first|((with_reducible refine gate_callee (f:=41) rfl ?_);refine goesL_ (some 19) rfl rfl Try.func41 zq16 rfl #[.int .i64 a2,.int .i64 0,.int .i64 48] rfl zq0 ?_;(with_reducible refine (spec_l00In.calls a2 0 48 true _ A15.out).mono ?_);rintro e w' ⟨rfl,⟨nd,rfl⟩⟩;refine ⟨_,rfl,?_⟩;have hcz20_0:wc.cell? ⟨gb101,0,none⟩=some (.slice A0_0 l0_0.length c0_0):=(blk_cell BK101.out 0).trans rfl;have hcz20_1:wc.cell? ⟨gb101,1,none⟩=some (.slice A0_1 l0_1.length c0_1):=(blk_cell BK101.out 1).trans rfl;have hfz20_0:=blk_frozen BK101.out 0;have hfz20_1:=blk_frozen BK101.out 1))
       go_meet
       case rel=>exact ⟨_,(false),zq3,H',⟨by have:=HJ3.out;first|omega|exact Nat.le_refl _⟩,⟨by (with_reducible repeat (first|refine blk_drewN ?_ _|refine blk_drew ?_|refine blk_alloc ?_ _));exact BK101.out⟩,⟨by repeat (first|(with_reducible first|exact HB.out|apply below_alloc|apply pw_below_drewN|apply below_drew1|refine below_set ?_ GE101.out)|exact HB.out)⟩⟩
     ·replace c16:=Bool.eq_false_iff.mpr c16;subst c16
      have H1:(spec_CandidatesFor.j1 kj3 l1 a2 true l0_0 l0_1)=some (r1,r2):=by rw [if_neg (show ¬ (false=true) by decide)] at H;exact H
      clear H;have H:=H1;clear H1;have H':=am H;clear H
      go_wp2_with (first|((with_reducible refine gate_callee (f:=41) rfl ?_);refine goesL_ (some 19) rfl rfl Try.func41 zq16 rfl #[.int .i64 a2,.int .i64 0,.int .i64 48] rfl zq0 ?_;(with_reducible refine (spec_l00In.calls a2 0 48 false _ A15.out).mono ?_);rintro e w' ⟨rfl,⟨nd,rfl⟩⟩;refine ⟨_,rfl,?_⟩))
      go_meet
      case rel=>exact ⟨_,(true),zq3,H',⟨by have:=HJ3.out;first|omega|exact Nat.le_refl _⟩,⟨by (with_reducible repeat (first|refine blk_drewN ?_ _|refine blk_drew ?_|refine blk_alloc ?_ _));exact BK101.out⟩,⟨by repeat (first|(with_reducible first|exact HB.out|apply below_alloc|apply pw_below_drewN|apply below_drew1|refine below_set ?_ GE101.out)|exact HB.out)⟩⟩
    case rest =>
     clear HC14;(try clear c1);(try clear p1);(try clear q1);(try clear hx1);(try clear qi1);(try clear c2);(try clear p2);(try clear c4);(try clear c7);(try clear c10);(try clear p10);(try clear q10);(try clear hx10);(try clear qi10);(try clear c11);(try clear c16);(try clear c17);(try clear c17b0);(try clear c17b1);(try clear c18);(try clear c18b0);(try clear c18b1);(try clear hcz19_0);(try clear hcz19_1);(try clear hcz20_0);(try clear hcz20_1);(try clear hfz19_0);(try clear hfz19_1);(try clear hfz20_0);(try clear hfz20_1);(try clear hx108_0);(try clear p108);(try clear p2);(try clear q108);obtain ⟨kq,x36_13,rfl,HA,HJ13,BK101,HB⟩:=hcut
     cases kq with
     | zero=>exact absurd HA.out (by simp [spec_CandidatesFor.j1])
     | succ kj13 =>
      have H:=HA.out;clear HA;simp only [spec_CandidatesFor.j1] at H
      by_cases c21:x36_13=true
      ·subst c21
       have H1:(some ((([]:List Int)),2))=some (r1,r2):=by rw [if_pos rfl] at H;exact H
       clear H;have H:=H1;clear H1;obtain ⟨y109,hy109⟩:∃ y_:List Int,y_=(([]:List Int)):=⟨_,rfl⟩
       replace H:(some (y109,2))=some (r1,r2):=by first|(rw [hy109];with_reducible exact H)|(have H2_:=(Option.bind_some _ _).symm.trans H;rw [hy109];with_reducible exact H2_)|(have H2_:=(Option.bind_some _ _).symm.trans H;with_reducible exact H2_)|with_reducible exact H|(rw [hy109];exact H)|exact H
       have Ny109:=am hy109;clear hy109;simp only [Option.some.injEq,Prod.mk.injEq] at H;obtain ⟨rfl,rfl⟩:=H
       go_wp2_with (first|((with_reducible refine gate_dst (N:=37) rfl ?_);(try (refine gate_guard (by rfl) ?_;dsimp only));refine Kd.R_lit (Kd.int .i64) _ 2 ?hg (N:=37) ?hd (xs:=([]:List Int)) (inner:=[]) (ok:=fun _=>True) (okp:=fun _=>True) ?hr ?hp (fun _ hk=>hk) trivial (Below.refl _ _) (Nat.le_refl _) (by simp) ?_;(case hd=>rfl);(case hg=>rfl);(case hr=>exact zq15);(case hp=>exact (Reps.none _ _));intro v110 w22 ho23 hb hg_ hnew_;clear hg_ hnew_;(first|rw [← Ny109.out] at ho23|(simp only [Int.reduceToNat] at ho23;rw [← Ny109.out] at ho23));have n0_:=am (Kd.R_lower ho23 (below_size zq1));have n1_:=am (blk_below (g:=gb101) (o:=.cells #[.slice A0_0 l0_0.length c0_0,.slice A0_1 l0_1.length c0_1] 33 (0,0)) zq4 hb);have n2_:=am (below_step zq1 hb);clear BK101;clear HB;have HO111:=n0_;have BK101:=n1_;have HB:=n2_;clear n0_ n1_ n2_;clear hb ho23))
       go_ret2
       exact ⟨_,by first|rfl|(simp [errW_none,errW_some,IntKind.wrap_i64,wrap64];done)|(simp [errW_none,errW_some] <;> rfl)|(simp [*,errW_none,errW_some] <;> rfl),by (with_reducible repeat (first|apply Kd.R_alloc|apply Kd.R_drewN|apply Kd.R_drew));exact HO111.out,by repeat (first|(with_reducible first|exact HB.out|apply below_alloc|apply pw_below_drewN|apply below_drew1|refine below_set ?_ GE101.out)|exact HB.out)⟩
      ·replace c21:=Bool.eq_false_iff.mpr c21;subst c21
       have H1:(spec_CandidatesFor.l0 kj13 l1 a2 (([]:List Int)) 0 l0_0 l0_1)=some (r1,r2):=by rw [if_neg (show ¬ (false=true) by decide)] at H;exact H
       clear H;have H:=H1;clear H1;obtain ⟨y112,hy112⟩:∃ y_:List Int,y_=(([]:List Int)):=⟨_,rfl⟩
       replace H:(spec_CandidatesFor.l0 kj13 l1 a2 y112 0 l0_0 l0_1)=some (r1,r2):=by first|(rw [hy112];with_reducible exact H)|(have H2_:=(Option.bind_some _ _).symm.trans H;rw [hy112];with_reducible exact H2_)|(have H2_:=(Option.bind_some _ _).symm.trans H;with_reducible exact H2_)|with_reducible exact H|(rw [hy112];exact H)|exact H
       have Ny112:=am hy112;clear hy112;have H':=am H;clear H
       go_wp2_with (first|((with_reducible refine gate_dst (N:=38) rfl ?_);(try (refine gate_guard (by rfl) ?_;dsimp only));refine Kd.R_lit (Kd.int .i64) _ 2 ?hg (N:=38) ?hd (xs:=([]:List Int)) (inner:=[]) (ok:=fun _=>True) (okp:=fun _=>True) ?hr ?hp (fun _ hk=>hk) trivial (Below.refl _ _) (Nat.le_refl _) (by simp) ?_;(case hd=>rfl);(case hg=>rfl);(case hr=>exact zq15);(case hp=>exact (Reps.none _ _));intro v113 w24 ho25 hb hg_ hnew_;clear hg_ hnew_;(first|rw [← Ny112.out] at ho25|(simp only [Int.reduceToNat] at ho25;rw [← Ny112.out] at ho25));have n0_:=am (Kd.R_lower ho25 (below_size zq1));have n1_:=am (blk_below (g:=gb101) (o:=.cells #[.slice A0_0 l0_0.length c0_0,.slice A0_1 l0_1.length c0_1] 33 (0,0)) zq4 hb);have n2_:=am (below_step zq1 hb);clear BK101;clear HB;have HO114:=n0_;have BK101:=n1_;have HB:=n2_;clear n0_ n1_ n2_;clear hb ho25))
       go_loopg [8,9] kj13 (fun kq v8 v9 w'=>∃ (x8_3:List Int) (x9_3:Int),v9=.int .i64 x9_3∧Aside0 (spec_CandidatesFor.l0 kq l1 a2 x8_3 x9_3 l0_0 l0_1=some (r1,r2))∧Aside0 (kq≤kj13)∧Aside0 (Kd.R (Kd.int .i64) 2 w' w.heap.size (fun _=>True) v8 x8_3)∧Aside0 (w'.heap[gb101]?=some (.cells #[(.slice A0_0 l0_0.length c0_0),(.slice A0_1 l0_1.length c0_1)] 33 (0,0)))∧Aside0 (Below w.heap.size w w'))
       case atStart=>exact ⟨(y112),(0),zq3,H',⟨Nat.le_refl _⟩,⟨by (with_reducible repeat (first|apply Kd.R_alloc|apply Kd.R_drewN|apply Kd.R_drew));exact HO114.out⟩,⟨by (with_reducible repeat (first|refine blk_drewN ?_ _|refine blk_drew ?_|refine blk_alloc ?_ _));exact BK101.out⟩,⟨by repeat (first|(with_reducible first|exact HB.out|apply below_alloc|apply pw_below_drewN|apply below_drew1|refine below_set ?_ GE101.out)|exact HB.out)⟩⟩
       case round =>
        clear H';(try clear c1);(try clear p1);(try clear q1);(try clear hx1);(try clear qi1);(try clear c2);(try clear p2);(try clear c4);(try clear c7);(try clear c10);(try clear p10);(try clear q10);(try clear hx10);(try clear qi10);(try clear c11);(try clear c16);(try clear c17);(try clear c17b0);(try clear c17b1);(try clear c18);(try clear c18b0);(try clear c18b1);(try clear c21);(try clear c23);(try clear hcz19_0);(try clear hcz19_1);(try clear hcz20_0);(try clear hcz20_1);(try clear hfz19_0);(try clear hfz19_1);(try clear hfz20_0);(try clear hfz20_1);(try clear hx108_0);(try clear p1);(try clear p10);(try clear p108);(try clear p2);(try clear q1);(try clear q10);(try clear q108);obtain ⟨x8_3,x9_3,rfl,HA,HK3,HO_8,BK101,HB⟩:=hrel
        cases gk with
        | zero=>exact absurd HA.out (by simp [spec_CandidatesFor.l0])
        | succ k3 =>
         have H:=HA.out;clear HA;simp only [spec_CandidatesFor.l0] at H
         by_cases c26:x9_3 < (l0_1.length:Int)
         ·rw [if_pos c26] at H;have c26b0:decide (x9_3 < (l0_1.length:Int))=true:=decide_eq_true c26;clear c26;replace H:=Option.bind_eq_some_iff.mp H;obtain ⟨t115,A270,H⟩:=H;replace H:((spec_l05Far.f t115 l1).bind fun t118=>(if t118≤a2 then (if x8_3.length < 17592186044416 then (spec_CandidatesFor.l0 k3 l1 a2 (x8_3 ++ [x9_3]) (wrap64 (x9_3 + 1)) l0_0 l0_1) else (none)) else (spec_CandidatesFor.l0 k3 l1 a2 x8_3 (wrap64 (x9_3 + 1)) l0_0 l0_1)))=some (r1,r2):=H;have A27:=am A270;clear A270;replace H:=Option.bind_eq_some_iff.mp H;obtain ⟨t118,A280,H⟩:=H;replace H:(if t118≤a2 then (if x8_3.length < 17592186044416 then (spec_CandidatesFor.l0 k3 l1 a2 (x8_3 ++ [x9_3]) (wrap64 (x9_3 + 1)) l0_0 l0_1) else (none)) else (spec_CandidatesFor.l0 k3 l1 a2 x8_3 (wrap64 (x9_3 + 1)) l0_0 l0_1))=some (r1,r2):=H;have A28:=am A280;clear A280
          by_cases c29:t118≤a2
          ·rw [if_pos c29] at H;have c29b0:decide (t118≤a2)=true:=decide_eq_true c29;clear c29
           by_cases c30:x8_3.length < 17592186044416
           ·rw [if_pos c30] at H;have LMc30:=am c30;clear c30;obtain ⟨y119,hy119⟩:∃ y_:List Int,y_=(x8_3 ++ [x9_3]):=⟨_,rfl⟩
            replace H:(spec_CandidatesFor.l0 k3 l1 a2 y119 (wrap64 (x9_3 + 1)) l0_0 l0_1)=some (r1,r2):=by first|(rw [hy119];with_reducible exact H)|(have H2_:=(Option.bind_some _ _).symm.trans H;rw [hy119];with_reducible exact H2_)|(have H2_:=(Option.bind_some _ _).symm.trans H;with_reducible exact H2_)|with_reducible exact H|(rw [hy119];exact H)|exact H
            have Ny119:=am hy119;clear hy119;have H':=am H;clear H;have hcz31_0:wr.cell? ⟨gb101,0,none⟩=some (.slice A0_0 l0_0.length c0_0):=(blk_cell BK101.out 0).trans rfl;have hcz31_1:wr.cell? ⟨gb101,1,none⟩=some (.slice A0_1 l0_1.length c0_1):=(blk_cell BK101.out 1).trans rfl;have hfz31_0:=blk_frozen BK101.out 0;have hfz31_1:=blk_frozen BK101.out 1
            go_wp2_with (first|((with_reducible refine gate_callee (f:=42) rfl ?_);refine goesL_ (some 47) rfl rfl Try.func42 zq16 rfl #[.pointer (some ⟨gb101,0,none⟩),.int .i64 x9_3] rfl zq0 ?_;(with_reducible refine (spec_l05Sights.calls A0_0 c0_0 l0_0 A0_1 c0_1 l0_1 x9_3 t115 _ ?side1 ?side2 ?side3 ?side4 ?side5 A27.out).mono ?_);(case side1=>exact zq6);(case side2=>exact HC0_0.out);(case side3=>exact zq7);(case side4=>exact HC0_1.out);(case side5=>exact zq4);rintro e w32 ⟨v116,rfl,ho0,hb⟩;refine ⟨_,rfl,?_⟩;have n0_:=am (Kd.R_below zq65 hb);have n1_:=am (Kd.R_lower ho0 (below_size zq1));have n2_:=am (blk_below (g:=gb101) (o:=.cells #[.slice A0_0 l0_0.length c0_0,.slice A0_1 l0_1.length c0_1] 33 (0,0)) zq4 hb);have n3_:=am (below_step zq1 hb);clear HO_8;clear BK101;clear HB;have HO_8:=n0_;have HO117:=n1_;have BK101:=n2_;have HB:=n3_;clear n0_ n1_ n2_ n3_;(try clear hb);(try clear hb2);(try clear hk);(try clear hi);(try clear ho0);obtain ⟨Ao33,co33,eo33⟩:=Kd.R_slice HO117.out;subst eo33)|((with_reducible refine gate_callee (f:=53) rfl ?_);refine goesL_ (some 49) rfl rfl Try.func53 zq16 rfl #[.slice Ao33 t115.length co33,.slice A1 l1.length c1] rfl zq0 ?_;(with_reducible refine (spec_l05Far.calls _ _ t115 _ _ l1 t118 _ ?side1 ?side2 ?side3 ?side4 A28.out).mono ?_);(case side1=>exact zq75);(case side2=>exact (Kd.R_reads' HO117.out).2.1);(case side3=>exact zq14);(case side4=>exact HC1.out);rintro e w' ⟨rfl,⟨nd,rfl⟩⟩;refine ⟨_,rfl,?_⟩)|((with_reducible refine gate_builtin (b:=.append) (xs:=#[.tmp 52,.tmp 54]) rfl ?_);(try (refine gate_guard (by rfl) ?_;dsimp only));at_builtin;refine Kd.R_append (Kd.int .i64) (w0:=w) w.heap.size rfl (.tmp 52) (.tmp 54) 49 2 (.int .i64 0) 8 rfl Try.underlying49 info2 rfl (by decide) (by omega) u8 x8_3 x9_3 [.int .i64 x9_3] (fun _=>True) (fun _=>False) rfl rfl ?aP (fun _ hk=>hk.elim) ?aF ?aO ?aB ?aS ?aL ?_;(case aP=>exact rfl);(case aB=>exact zq1);(case aF=>exact (fun _ _=>trivial));(case aO=>exact zq65);(case aS=>exact (below_size zq1));(case aL=>have:=LMc30.out;omega);intro v120 w34 ho hb hg hat;rw [← Ny119.out] at ho;have n0_:=am (blk_grown (g:=gb101) (o:=.cells #[.slice A0_0 l0_0.length c0_0,.slice A0_1 l0_1.length c0_1] 33 (0,0)) zq4 hg (Kd.R_ne HO_8.out BK101.out (by decide)));have n1_:=am (Kd.R_over' (by (with_reducible repeat (first|apply Kd.R_alloc|apply Kd.R_drewN|apply Kd.R_drew));exact HO117.out) (Kd.R_typed zq65) (by decide) hg);have n2_:=am (hb);have n3_:=am (ho);clear BK101;clear HO117;clear HB;clear HO_8;have BK101:=n0_;have HO117:=n1_;have HB:=n2_;have HO121:=n3_;clear n0_ n1_ n2_ n3_;clear ho hb hg hat))
            go_roundg k3
            case measure=>have:=HJ3.out;have:=HJ13.out;have:=HK3.out;omega
            case rel=>exact ⟨(y119),(wrap64 (x9_3 + 1)),zq3,H',⟨by have:=HJ3.out;have:=HJ13.out;have:=HK3.out;omega⟩,⟨by (with_reducible repeat (first|apply Kd.R_alloc|apply Kd.R_drewN|apply Kd.R_drew));exact HO121.out⟩,⟨by (with_reducible repeat (first|refine blk_drewN ?_ _|refine blk_drew ?_|refine blk_alloc ?_ _));exact BK101.out⟩,⟨by repeat (first|(with_reducible first|exact HB.out|apply below_alloc|apply pw_below_drewN|apply below_drew1|refine below_set ?_ GE101.out)|exact HB.out)⟩⟩
           ·rw [if_neg c30] at H;exact absurd H (by simp)
          ·rw [if_neg c29] at H;have c29b0:decide (t118≤a2)=false:=decide_eq_false c29;clear c29;have H':=am H;clear H;have hcz35_0:wr.cell? ⟨gb101,0,none⟩=some (.slice A0_0 l0_0.length c0_0):=(blk_cell BK101.out 0).trans rfl;have hcz35_1:wr.cell? ⟨gb101,1,none⟩=some (.slice A0_1 l0_1.length c0_1):=(blk_cell BK101.out 1).trans rfl;have hfz35_0:=blk_frozen BK101.out 0;have hfz35_1:=blk_frozen BK101.out 1
           go_wp2_with (first|((with_reducible refine gate_callee (f:=42) rfl ?_);refine goesL_ (some 47) rfl rfl Try.func42 zq16 rfl #[.pointer (some ⟨gb101,0,none⟩),.int .i64 x9_3] rfl zq0 ?_;(with_reducible refine (spec_l05Sights.calls A0_0 c0_0 l0_0 A0_1 c0_1 l0_1 x9_3 t115 _ ?side1 ?side2 ?side3 ?side4 ?side5 A27.out).mono ?_);(case side1=>exact zq6);(case side2=>exact HC0_0.out);(case side3=>exact zq7);(case side4=>exact HC0_1.out);(case side5=>exact zq4);rintro e w36 ⟨v116,rfl,ho0,hb⟩;refine ⟨_,rfl,?_⟩;have n0_:=am (Kd.R_below zq65 hb);have n1_:=am (Kd.R_lower ho0 (below_size zq1));have n2_:=am (blk_below (g:=gb101) (o:=.cells #[.slice A0_0 l0_0.length c0_0,.slice A0_1 l0_1.length c0_1] 33 (0,0)) zq4 hb);have n3_:=am (below_step zq1 hb);clear HO_8;clear BK101;clear HB;have HO_8:=n0_;have HO117:=n1_;have BK101:=n2_;have HB:=n3_;clear n0_ n1_ n2_ n3_;(try clear hb);(try clear hb2);(try clear hk);(try clear hi);(try clear ho0);obtain ⟨Ao37,co37,eo37⟩:=Kd.R_slice HO117.out;subst eo37)|((with_reducible refine gate_callee (f:=53) rfl ?_);refine goesL_ (some 49) rfl rfl Try.func53 zq16 rfl #[.slice Ao37 t115.length co37,.slice A1 l1.length c1] rfl zq0 ?_;(with_reducible refine (spec_l05Far.calls _ _ t115 _ _ l1 t118 _ ?side1 ?side2 ?side3 ?side4 A28.out).mono ?_);(case side1=>exact zq75);(case side2=>exact (Kd.R_reads' HO117.out).2.1);(case side3=>exact zq14);(case side4=>exact HC1.out);rintro e w' ⟨rfl,⟨nd,rfl⟩⟩;refine ⟨_,rfl,?_⟩))
           go_roundg k3
           case measure=>have:=HJ3.out;have:=HJ13.out;have:=HK3.out;omega
           case rel=>exact ⟨(x8_3),(wrap64 (x9_3 + 1)),zq3,H',⟨by have:=HJ3.out;have:=HJ13.out;have:=HK3.out;omega⟩,⟨by (with_reducible repeat (first|apply Kd.R_alloc|apply Kd.R_drewN|apply Kd.R_drew));exact HO_8.out⟩,⟨by (with_reducible repeat (first|refine blk_drewN ?_ _|refine blk_drew ?_|refine blk_alloc ?_ _));exact BK101.out⟩,⟨by repeat (first|(with_reducible first|exact HB.out|apply below_alloc|apply pw_below_drewN|apply below_drew1|refine below_set ?_ GE101.out)|exact HB.out)⟩⟩
         ·rw [if_neg c26] at H;have c26b0:decide (x9_3 < (l0_1.length:Int))=false:=decide_eq_false c26;clear c26;simp only [Option.some.injEq,Prod.mk.injEq] at H;obtain ⟨rfl,rfl⟩:=H;have hcz38_0:wr.cell? ⟨gb101,0,none⟩=some (.slice A0_0 l0_0.length c0_0):=(blk_cell BK101.out 0).trans rfl;have hcz38_1:wr.cell? ⟨gb101,1,none⟩=some (.slice A0_1 l0_1.length c0_1):=(blk_cell BK101.out 1).trans rfl;have hfz38_0:=blk_frozen BK101.out 0;have hfz38_1:=blk_frozen BK101.out 1
          go_wp2
          go_ret2
          exact ⟨_,by first|rfl|(simp [errW_none,errW_some,IntKind.wrap_i64,wrap64];done)|(simp [errW_none,errW_some] <;> rfl)|(simp [*,errW_none,errW_some] <;> rfl),by (with_reducible repeat (first|apply Kd.R_alloc|apply Kd.R_drewN|apply Kd.R_drew));exact HO_8.out,by repeat (first|(with_reducible first|exact HB.out|apply below_alloc|apply pw_below_drewN|apply below_drew1|refine below_set ?_ GE101.out)|exact HB.out)⟩
end Go.Proofs.Ytgfknljhogfeaaa.G
end

section
namespace Go.Proofs.Ytgfknljhogfeaaa.G
open Go.RowKit Go.Proofs.YtgfknljhogfeaaaW.PrintWords Go.Proofs.YtgfknljhogfeaaaW.PrintLast Go.Proofs.YtgfknljhogfeaaaW.PrintMore
attribute [local go_sem] max2_int min2_int max_two min_two max_three min_three max_four min_four
set_option linter.unusedVariables false
set_option linter.unusedSimpArgs false
def spec_l00Has.l0:Nat→List Int→Int→Int→Option (Bool)
 | 0,_,_,_=>none
 | k + 1,x0,x1,x5=>if x5 < (x0.length:Int) then (if 0≤x5 then (if (rd x0 x5)=x1 then (some true) else (spec_l00Has.l0 k x0 x1 (wrap64 (x5 + 1)))) else (none)) else (some false)
def spec_l00Has.f (k:Nat) (l0:List Int) (a1:Int):Option (Bool):=spec_l00Has.l0 k l0 a1 0
set_option maxHeartbeats 8000000 in
set_option maxRecDepth 100000 in
theorem spec_l00Has.calls (k:Nat) (A0:Option Addr) (c0:Nat) (l0:List Int) (a1:Int) (r:Bool) (w:World) (hr0:Kd.C (Kd.int .i64) w A0 l0.length l0) (hc0:l0.length≤c0) (h:spec_l00Has.f k l0 a1=some r) :
  Calls Try.prog 69 #[.slice A0 l0.length c0,.int .i64 a1] w fun e w'=>e=.returned (.bool r)∧Drawn0 w w':=by
 have HR0:=am hr0;have HC0:=am hc0;clear hr0 hc0;have H:(spec_l00Has.l0 k l0 a1 0)=some r:=h;clear h;have H':=am H;clear H
 go_enter Try.func69,Try.ntmps69
 go_wp2
 go_loopg [5] k (fun kq v5 w'=>∃ (x5_1:Int),v5=.int .i64 x5_1∧Aside0 (spec_l00Has.l0 kq l0 a1 x5_1=some r)∧Aside0 (kq≤k)∧Drawn0 w w')
 case atStart=>exact ⟨(0),zq3,H',⟨Nat.le_refl _⟩,by repeat (first|exact Drawn0.refl _|apply Drawn0.step)⟩
 case round =>
  clear H';(try clear p2);obtain ⟨x5_1,rfl,HA,HK1,⟨m1,rfl⟩⟩:=hrel
  cases gk with
  | zero=>exact absurd HA.out (by simp [spec_l00Has.l0])
  | succ k1 =>
   have H:=HA.out;clear HA;simp only [spec_l00Has.l0] at H
   by_cases c3:x5_1 < (l0.length:Int)
   ·rw [if_pos c3] at H;have c3b0:decide (x5_1 < (l0.length:Int))=true:=decide_eq_true c3;clear c3
    by_cases c4:0≤x5_1
    ·rw [if_pos c4] at H;have c4b0:decide (0≤x5_1)=true:=decide_eq_true c4;clear c4
     by_cases c5:(rd l0 x5_1)=a1
     ·rw [if_pos c5] at H;have c5b0:((rd l0 x5_1) == a1)=true:=beq_iff_eq.mpr c5;have c5b1:((rd l0 x5_1) != a1)=false:=bne_eq_false_iff_eq.mpr c5;clear c5;obtain rfl:=Option.some.inj H;have p101:0≤(x5_1:Int):=of_decide_eq_true zq9;have q101:x5_1 < (l0.length:Int):=of_decide_eq_true zq9;obtain ⟨ad101,e101,hx101_0⟩:=Kd.at_int HR0.out x5_1 p101 q101;cases e101;replace p101:=eq_true p101;replace q101:=eq_true q101
      go_wp2
      go_ret
      exact ⟨by first|rfl|(simp only [IntKind.wrap_i64,wrap64];done)|(simp;done)|(simp [*];done),by repeat (first|exact Drawn0.refl _|apply Drawn0.step)⟩
     ·rw [if_neg c5] at H;have c5b0:((rd l0 x5_1) == a1)=false:=beq_eq_false_iff_ne.mpr c5;have c5b1:((rd l0 x5_1) != a1)=true:=bne_iff_ne.mpr c5;have H':=am H;clear H;have p101:0≤(x5_1:Int):=of_decide_eq_true zq9;have q101:x5_1 < (l0.length:Int):=of_decide_eq_true zq9;obtain ⟨ad101,e101,hx101_0⟩:=Kd.at_int HR0.out x5_1 p101 q101;cases e101;replace p101:=eq_true p101;replace q101:=eq_true q101
      go_wp2
      go_roundg k1
      case measure=>have:=HK1.out;omega
      case rel=>exact ⟨(wrap64 (x5_1 + 1)),zq3,H',⟨by have:=HK1.out;omega⟩,by repeat (first|exact Drawn0.refl _|apply Drawn0.step)⟩
    ·rw [if_neg c4] at H;exact absurd H (by simp)
   ·rw [if_neg c3] at H;have c3b0:decide (x5_1 < (l0.length:Int))=false:=decide_eq_false c3;clear c3;obtain rfl:=Option.some.inj H
    go_wp2
    go_ret
    exact ⟨by first|rfl|(simp only [IntKind.wrap_i64,wrap64];done)|(simp;done)|(simp [*];done),by repeat (first|exact Drawn0.refl _|apply Drawn0.step)⟩
end Go.Proofs.Ytgfknljhogfeaaa.G
end

section
namespace Go.Proofs.Ytgfknljhogfeaaa.G
open Go.RowKit Go.Proofs.YtgfknljhogfeaaaW.PrintWords Go.Proofs.YtgfknljhogfeaaaW.PrintLast Go.Proofs.YtgfknljhogfeaaaW.PrintMore
attribute [local go_sem] max2_int min2_int max_two min_two max_three min_three max_four min_four
set_option linter.unusedVariables false
set_option linter.unusedSimpArgs false
def spec_HasNumber.f (k:Nat) (l0:List Int) (a1:Int):Option (Bool):=(spec_l00Has.f k l0 a1).bind fun t101=>(some t101)
set_option maxHeartbeats 8000000 in
set_option maxRecDepth 100000 in
theorem spec_HasNumber.calls (k:Nat) (A0:Option Addr) (c0:Nat) (l0:List Int) (a1:Int) (r:Bool) (w:World) (hr0:Kd.C (Kd.int .i64) w A0 l0.length l0) (hc0:l0.length≤c0) (h:spec_HasNumber.f k l0 a1=some r) :
  Calls Try.prog 34 #[.slice A0 l0.length c0,.int .i64 a1] w fun e w'=>e=.returned (.bool r)∧Drawn0 w w':=by
 have HR0:=am hr0;have HC0:=am hc0;clear hr0 hc0;have H:((spec_l00Has.f k l0 a1).bind fun t101=>(some t101))=some r:=h;clear h;replace H:=Option.bind_eq_some_iff.mp H;obtain ⟨t101,A30,H⟩:=H;replace H:(some t101)=some r:=H;have A3:=am A30;clear A30;obtain rfl:=Option.some.inj H
 go_enter Try.func34,Try.ntmps34
 go_wp2_with (first|((with_reducible refine gate_callee (f:=69) rfl ?_);refine goesL_ (some 7) rfl rfl Try.func69 zq16 rfl #[.slice A0 l0.length c0,.int .i64 a1] rfl zq0 ?_;(with_reducible refine (spec_l00Has.calls k _ _ l0 a1 t101 _ ?side1 ?side2 A3.out).mono ?_);(case side1=>exact zq28);(case side2=>exact HC0.out);rintro e w' ⟨rfl,⟨nd,rfl⟩⟩;refine ⟨_,rfl,?_⟩))
 go_ret
 exact ⟨by first|rfl|(simp only [IntKind.wrap_i64,wrap64];done)|(simp;done)|(simp [*];done),by repeat (first|exact Drawn0.refl _|apply Drawn0.step)⟩
end Go.Proofs.Ytgfknljhogfeaaa.G
end

section
namespace Go.Proofs.Ytgfknljhogfeaaa.G
open Go.RowKit Go.Proofs.YtgfknljhogfeaaaW.PrintWords Go.Proofs.YtgfknljhogfeaaaW.PrintLast Go.Proofs.YtgfknljhogfeaaaW.PrintMore
attribute [local go_sem] max2_int min2_int max_two min_two max_three min_three max_four min_four
set_option linter.unusedVariables false
set_option linter.unusedSimpArgs false
mutual
def spec_NearestWords.l0:Nat→Int→Int→Int→Int→Int→List (S68)→List (List Int)→Option (Int × Int × Int × Int)
 | 0,_,_,_,_,_,_,_=>none
 | k + 1,x6,x7,x8,x9,x10,x102000,x102001=>if x10 < x6 then ((spec_l05Sights.f x102000 x102001 x10).bind fun t103=>(spec_NearestWords.l1 k x6 x7 x8 x9 x10 t103 (wrap64 (x10 + 1)) x102000 x102001)) else (some (x7,x8,x9,0))
def spec_NearestWords.l1:Nat→Int→Int→Int→Int→Int→List (S61)→Int→List (S68)→List (List Int)→Option (Int × Int × Int × Int)
 | 0,_,_,_,_,_,_,_,_,_=>none
 | k + 1,x6,x7,x8,x9,x10,x11,x12,x102000,x102001=>if x12 < x6 then ((spec_l05Sights.f x102000 x102001 x12).bind fun t106=>((spec_l05Far.f x11 t106).bind fun t109=>(if x9 < 0 then (spec_NearestWords.l1 k x6 x10 x12 t109 x10 x11 (wrap64 (x12 + 1)) x102000 x102001) else (if t109 < x9 then (spec_NearestWords.l1 k x6 x10 x12 t109 x10 x11 (wrap64 (x12 + 1)) x102000 x102001) else (spec_NearestWords.l1 k x6 x7 x8 x9 x10 x11 (wrap64 (x12 + 1)) x102000 x102001))))) else (spec_NearestWords.l0 k x6 x7 x8 x9 (wrap64 (x10 + 1)) x102000 x102001)
end
def spec_NearestWords.f (k:Nat) (l0_0:List (S68)) (l0_1:List (List Int)):Option (Int × Int × Int × Int):=(spec_l05Ok.f k l0_0 l0_1).bind fun t102=>(if t102=true then (if (l0_1.length:Int) < 2 then (some (0,0,0,6)) else (spec_NearestWords.l0 k (l0_1.length:Int) 0 0 (-1) 0 l0_0 l0_1)) else (some (0,0,0,1)))
set_option maxHeartbeats 8000000 in
set_option maxRecDepth 100000 in
theorem spec_NearestWords.calls (k:Nat) (A0_0:Option Addr) (c0_0:Nat) (l0_0:List (S68)) (A0_1:Option Addr) (c0_1:Nat) (l0_1:List (List Int)) (r1:Int) (r2:Int) (r3:Int) (r4:Int) (w:World) (hr0_0:Kd.C k68 w A0_0 l0_0.length l0_0) (hc0_0:l0_0.length≤c0_0) (hr0_1:Kd.C (Kd.slice 5 (Kd.int .u8)) w A0_1 l0_1.length l0_1) (hc0_1:l0_1.length≤c0_1) (h:spec_NearestWords.f k l0_0 l0_1=some (r1,r2,r3,r4)) :
  Calls Try.prog 17 #[.agg #[.slice A0_0 l0_0.length c0_0,.slice A0_1 l0_1.length c0_1]] w fun e w'=>e=.returned (.tuple #[.int .i64 r1,.int .i64 r2,.int .i64 r3,.int .i64 r4])∧Below w.heap.size w w':=by
 have hu33:=Try.underlying33;have HR0_0:=am hr0_0;have HC0_0:=am hc0_0;clear hr0_0 hc0_0;have HR0_1:=am hr0_1;have HC0_1:=am hc0_1;clear hr0_1 hc0_1;have HB:=am (Below.refl w.heap.size w);have H:((spec_l05Ok.f k l0_0 l0_1).bind fun t102=>(if t102=true then (if (l0_1.length:Int) < 2 then (some (0,0,0,6)) else (spec_NearestWords.l0 k (l0_1.length:Int) 0 0 (-1) 0 l0_0 l0_1)) else (some (0,0,0,1))))=some (r1,r2,r3,r4):=h;clear h;replace H:=Option.bind_eq_some_iff.mp H;obtain ⟨t102,A20,H⟩:=H;replace H:(if t102=true then (if (l0_1.length:Int) < 2 then (some (0,0,0,6)) else (spec_NearestWords.l0 k (l0_1.length:Int) 0 0 (-1) 0 l0_0 l0_1)) else (some (0,0,0,1)))=some (r1,r2,r3,r4):=H;have A2:=am A20;clear A20
 by_cases c3:t102=true
 ·subst c3
  have H1:(if (l0_1.length:Int) < 2 then (some (0,0,0,6)) else (spec_NearestWords.l0 k (l0_1.length:Int) 0 0 (-1) 0 l0_0 l0_1))=some (r1,r2,r3,r4):=by rw [if_pos rfl] at H;exact H
  clear H;have H:=H1;clear H1
  by_cases c4:(l0_1.length:Int) < 2
  ·rw [if_pos c4] at H;have c4b0:decide ((l0_1.length:Int) < 2)=true:=decide_eq_true c4;have c4b1:decide (l0_1.length < 2)=true:=decide_eq_true (by omega);clear c4;simp only [Option.some.injEq,Prod.mk.injEq] at H;obtain ⟨rfl,rfl,rfl,rfl⟩:=H
   go_enter Try.func17,Try.ntmps17
   go_wp2_with (first|((with_reducible refine gate_dst (N:=1) rfl ?_);refine box_event ?hg (N:=1) ?hd (cs:=#[.slice A0_0 l0_0.length c0_0,.slice A0_1 l0_1.length c0_1]) (t:=33) ?hr ?_;(case hd=>rfl);(case hg=>rfl);(case hr=>exact zq15);intro gb101 hg w5 hbox hb;have n0_:=am (below_step zq2 hb);have n1_:=am (hbox);have n2_:=am ((by rw [hg];exact (below_size zq2):w.heap.size≤gb101));have n3_:=am ((by rw [hg];exact (below_size zq2):w.heap.size≤gb101));clear HB;have HB:=n0_;have BK101:=n1_;have GW101:=n2_;have GE101:=n3_;clear n0_ n1_ n2_ n3_;clear hb hbox hg)|((with_reducible refine gate_callee (f:=40) rfl ?_);refine goesL_ (some 14) rfl rfl Try.func40 zq16 rfl #[.pointer (some ⟨gb101,0,none⟩)] rfl zq0 ?_;(with_reducible refine (spec_l05Ok.calls k A0_0 c0_0 l0_0 A0_1 c0_1 l0_1 true _ ?side1 ?side2 ?side3 ?side4 ?side5 A2.out).mono ?_);(case side1=>exact zq6);(case side2=>exact HC0_0.out);(case side3=>exact zq7);(case side4=>exact HC0_1.out);(case side5=>exact zq4);rintro e w6 ⟨rfl,hb⟩;refine ⟨_,rfl,?_⟩;have n0_:=am (blk_below (g:=gb101) (o:=.cells #[.slice A0_0 l0_0.length c0_0,.slice A0_1 l0_1.length c0_1] 33 (0,0)) zq4 hb);have n1_:=am (below_step zq1 hb);clear BK101;clear HB;have BK101:=n0_;have HB:=n1_;clear n0_ n1_;(try clear hb);(try clear hb2);(try clear hk);(try clear hi);have hcz7_0:w6.cell? ⟨gb101,0,none⟩=some (.slice A0_0 l0_0.length c0_0):=(blk_cell BK101.out 0).trans rfl;have hcz7_1:w6.cell? ⟨gb101,1,none⟩=some (.slice A0_1 l0_1.length c0_1):=(blk_cell BK101.out 1).trans rfl;have hfz7_0:=blk_frozen BK101.out 0;have hfz7_1:=blk_frozen BK101.out 1))
   refine bodyPost_ret (results_list (rs:=[.tmp 2,.tmp 3,.tmp 4,.tmp 5]) rfl (by simp) (.tmp (.tmp (.tmp (.tmp .nil))))) rfl ?_;exact ⟨by first|rfl|(simp [errW_none,errW_some,IntKind.wrap_i64,wrap64];done)|(simp [errW_none,errW_some] <;> rfl)|(simp [*,errW_none,errW_some] <;> rfl),by repeat (first|(with_reducible first|exact HB.out|apply below_alloc|apply pw_below_drewN|apply below_drew1|refine below_set ?_ GE101.out)|exact HB.out)⟩
  ·rw [if_neg c4] at H;have c4b0:decide ((l0_1.length:Int) < 2)=false:=decide_eq_false c4;have c4b1:decide (l0_1.length < 2)=false:=decide_eq_false (by omega);clear c4;have H':=am H;clear H
   go_enter Try.func17,Try.ntmps17
   go_wp2_with (first|((with_reducible refine gate_dst (N:=1) rfl ?_);refine box_event ?hg (N:=1) ?hd (cs:=#[.slice A0_0 l0_0.length c0_0,.slice A0_1 l0_1.length c0_1]) (t:=33) ?hr ?_;(case hd=>rfl);(case hg=>rfl);(case hr=>exact zq15);intro gb101 hg w8 hbox hb;have n0_:=am (below_step zq2 hb);have n1_:=am (hbox);have n2_:=am ((by rw [hg];exact (below_size zq2):w.heap.size≤gb101));have n3_:=am ((by rw [hg];exact (below_size zq2):w.heap.size≤gb101));clear HB;have HB:=n0_;have BK101:=n1_;have GW101:=n2_;have GE101:=n3_;clear n0_ n1_ n2_ n3_;clear hb hbox hg)|((with_reducible refine gate_callee (f:=40) rfl ?_);refine goesL_ (some 14) rfl rfl Try.func40 zq16 rfl #[.pointer (some ⟨gb101,0,none⟩)] rfl zq0 ?_;(with_reducible refine (spec_l05Ok.calls k A0_0 c0_0 l0_0 A0_1 c0_1 l0_1 true _ ?side1 ?side2 ?side3 ?side4 ?side5 A2.out).mono ?_);(case side1=>exact zq6);(case side2=>exact HC0_0.out);(case side3=>exact zq7);(case side4=>exact HC0_1.out);(case side5=>exact zq4);rintro e w9 ⟨rfl,hb⟩;refine ⟨_,rfl,?_⟩;have n0_:=am (blk_below (g:=gb101) (o:=.cells #[.slice A0_0 l0_0.length c0_0,.slice A0_1 l0_1.length c0_1] 33 (0,0)) zq4 hb);have n1_:=am (below_step zq1 hb);clear BK101;clear HB;have BK101:=n0_;have HB:=n1_;clear n0_ n1_;(try clear hb);(try clear hb2);(try clear hk);(try clear hi);have hcz10_0:w9.cell? ⟨gb101,0,none⟩=some (.slice A0_0 l0_0.length c0_0):=(blk_cell BK101.out 0).trans rfl;have hcz10_1:w9.cell? ⟨gb101,1,none⟩=some (.slice A0_1 l0_1.length c0_1):=(blk_cell BK101.out 1).trans rfl;have hfz10_0:=blk_frozen BK101.out 0;have hfz10_1:=blk_frozen BK101.out 1))
   go_loopg [7,8,9,10] k (fun kq v7 v8 v9 v10 w'=>∃ (x7_1:Int) (x8_1:Int) (x9_1:Int) (x10_1:Int),v7=.int .i64 x7_1∧v8=.int .i64 x8_1∧v9=.int .i64 x9_1∧v10=.int .i64 x10_1∧Aside0 (spec_NearestWords.l0 kq (l0_1.length:Int) x7_1 x8_1 x9_1 x10_1 l0_0 l0_1=some (r1,r2,r3,r4))∧Aside0 (kq≤k)∧Aside0 (w'.heap[gb101]?=some (.cells #[(.slice A0_0 l0_0.length c0_0),(.slice A0_1 l0_1.length c0_1)] 33 (0,0)))∧Aside0 (Below w.heap.size w w'))
   case atStart=>exact ⟨(0),(0),((-1)),(0),zq3,zq3,zq3,zq3,H',⟨Nat.le_refl _⟩,⟨by (with_reducible repeat (first|refine blk_drewN ?_ _|refine blk_drew ?_|refine blk_alloc ?_ _));exact BK101.out⟩,⟨by repeat (first|(with_reducible first|exact HB.out|apply below_alloc|apply pw_below_drewN|apply below_drew1|refine below_set ?_ GE101.out)|exact HB.out)⟩⟩
   case round =>
    clear H';(try clear c1);(try clear p2);(try clear c3);(try clear c4);(try clear c4b0);(try clear c4b1);(try clear hcz10_0);(try clear hcz10_1);(try clear hcz7_0);(try clear hcz7_1);(try clear hfz10_0);(try clear hfz10_1);(try clear hfz7_0);(try clear hfz7_1);obtain ⟨x7_1,x8_1,x9_1,x10_1,rfl,rfl,rfl,rfl,HA,HK1,BK101,HB⟩:=hrel
    cases gk with
    | zero=>exact absurd HA.out (by simp [spec_NearestWords.l0])
    | succ k1 =>
     have H:=HA.out;clear HA;simp only [spec_NearestWords.l0] at H
     by_cases c11:x10_1 < (l0_1.length:Int)
     ·rw [if_pos c11] at H;have c11b0:decide (x10_1 < (l0_1.length:Int))=true:=decide_eq_true c11;clear c11;replace H:=Option.bind_eq_some_iff.mp H;obtain ⟨t103,A120,H⟩:=H;replace H:(spec_NearestWords.l1 k1 (l0_1.length:Int) x7_1 x8_1 x9_1 x10_1 t103 (wrap64 (x10_1 + 1)) l0_0 l0_1)=some (r1,r2,r3,r4):=H;have A12:=am A120;clear A120;have H':=am H;clear H
      go_wp2_with (first|((with_reducible refine gate_callee (f:=42) rfl ?_);refine goesL_ (some 27) rfl rfl Try.func42 zq16 rfl #[.pointer (some ⟨gb101,0,none⟩),.int .i64 x10_1] rfl zq0 ?_;(with_reducible refine (spec_l05Sights.calls A0_0 c0_0 l0_0 A0_1 c0_1 l0_1 x10_1 t103 _ ?side1 ?side2 ?side3 ?side4 ?side5 A12.out).mono ?_);(case side1=>exact zq6);(case side2=>exact HC0_0.out);(case side3=>exact zq7);(case side4=>exact HC0_1.out);(case side5=>exact zq4);rintro e w13 ⟨v104,rfl,ho0,hb⟩;refine ⟨_,rfl,?_⟩;have n0_:=am (Kd.R_lower ho0 (below_size zq1));have n1_:=am (blk_below (g:=gb101) (o:=.cells #[.slice A0_0 l0_0.length c0_0,.slice A0_1 l0_1.length c0_1] 33 (0,0)) zq4 hb);have n2_:=am (below_step zq1 hb);clear BK101;clear HB;have HO105:=n0_;have BK101:=n1_;have HB:=n2_;clear n0_ n1_ n2_;(try clear hb);(try clear hb2);(try clear hk);(try clear hi);(try clear ho0)))
      go_loopg [7,8,9,12] k1 (fun kq v7 v8 v9 v12 w'=>∃ (x7_2:Int) (x8_2:Int) (x9_2:Int) (x12_2:Int),v7=.int .i64 x7_2∧v8=.int .i64 x8_2∧v9=.int .i64 x9_2∧v12=.int .i64 x12_2∧Aside0 (spec_NearestWords.l1 kq (l0_1.length:Int) x7_2 x8_2 x9_2 x10_1 t103 x12_2 l0_0 l0_1=some (r1,r2,r3,r4))∧Aside0 (kq≤k1)∧Aside0 (Kd.R k61 61 w' w.heap.size (fun _=>True) v104 t103)∧Aside0 (w'.heap[gb101]?=some (.cells #[(.slice A0_0 l0_0.length c0_0),(.slice A0_1 l0_1.length c0_1)] 33 (0,0)))∧Aside0 (Below w.heap.size w w'))
      case atStart=>exact ⟨(x7_1),(x8_1),(x9_1),(wrap64 (x10_1 + 1)),zq3,zq3,zq3,zq3,H',⟨Nat.le_refl _⟩,⟨by (with_reducible repeat (first|apply Kd.R_alloc|apply Kd.R_drewN|apply Kd.R_drew));exact HO105.out⟩,⟨by (with_reducible repeat (first|refine blk_drewN ?_ _|refine blk_drew ?_|refine blk_alloc ?_ _));exact BK101.out⟩,⟨by repeat (first|(with_reducible first|exact HB.out|apply below_alloc|apply pw_below_drewN|apply below_drew1|refine below_set ?_ GE101.out)|exact HB.out)⟩⟩
      case round =>
       clear H';(try clear c1);(try clear p2);(try clear c3);(try clear c4);(try clear c4b0);(try clear c4b1);(try clear p6);(try clear c11);(try clear c11b0);(try clear hcz10_0);(try clear hcz10_1);(try clear hcz7_0);(try clear hcz7_1);(try clear hfz10_0);(try clear hfz10_1);(try clear hfz7_0);(try clear hfz7_1);(try clear p2);obtain ⟨x7_2,x8_2,x9_2,x12_2,rfl,rfl,rfl,rfl,HA,HK2,HO_11,BK101,HB⟩:=hrel
       cases gk with
       | zero=>exact absurd HA.out (by simp [spec_NearestWords.l1])
       | succ k2 =>
        have H:=HA.out;clear HA;simp only [spec_NearestWords.l1] at H
        by_cases c14:x12_2 < (l0_1.length:Int)
        ·rw [if_pos c14] at H;have c14b0:decide (x12_2 < (l0_1.length:Int))=true:=decide_eq_true c14;clear c14;replace H:=Option.bind_eq_some_iff.mp H;obtain ⟨t106,A150,H⟩:=H;replace H:((spec_l05Far.f t103 t106).bind fun t109=>(if x9_2 < 0 then (spec_NearestWords.l1 k2 (l0_1.length:Int) x10_1 x12_2 t109 x10_1 t103 (wrap64 (x12_2 + 1)) l0_0 l0_1) else (if t109 < x9_2 then (spec_NearestWords.l1 k2 (l0_1.length:Int) x10_1 x12_2 t109 x10_1 t103 (wrap64 (x12_2 + 1)) l0_0 l0_1) else (spec_NearestWords.l1 k2 (l0_1.length:Int) x7_2 x8_2 x9_2 x10_1 t103 (wrap64 (x12_2 + 1)) l0_0 l0_1))))=some (r1,r2,r3,r4):=H;have A15:=am A150;clear A150;replace H:=Option.bind_eq_some_iff.mp H;obtain ⟨t109,A160,H⟩:=H;replace H:(if x9_2 < 0 then (spec_NearestWords.l1 k2 (l0_1.length:Int) x10_1 x12_2 t109 x10_1 t103 (wrap64 (x12_2 + 1)) l0_0 l0_1) else (if t109 < x9_2 then (spec_NearestWords.l1 k2 (l0_1.length:Int) x10_1 x12_2 t109 x10_1 t103 (wrap64 (x12_2 + 1)) l0_0 l0_1) else (spec_NearestWords.l1 k2 (l0_1.length:Int) x7_2 x8_2 x9_2 x10_1 t103 (wrap64 (x12_2 + 1)) l0_0 l0_1)))=some (r1,r2,r3,r4):=H;have A16:=am A160;clear A160
         by_cases c17:x9_2 < 0
         ·rw [if_pos c17] at H;have c17b0:decide (x9_2 < 0)=true:=decide_eq_true c17;clear c17;have H':=am H;clear H
          go_wp2_with (first|((with_reducible refine gate_callee (f:=42) rfl ?_);refine goesL_ (some 37) rfl rfl Try.func42 zq16 rfl #[.pointer (some ⟨gb101,0,none⟩),.int .i64 x12_2] rfl zq0 ?_;(with_reducible refine (spec_l05Sights.calls A0_0 c0_0 l0_0 A0_1 c0_1 l0_1 x12_2 t106 _ ?side1 ?side2 ?side3 ?side4 ?side5 A15.out).mono ?_);(case side1=>exact zq6);(case side2=>exact HC0_0.out);(case side3=>exact zq7);(case side4=>exact HC0_1.out);(case side5=>exact zq4);rintro e w18 ⟨v107,rfl,ho0,hb⟩;refine ⟨_,rfl,?_⟩;have n0_:=am (Kd.R_elder' zq45 (Kd.R_base ho0) hb);have n1_:=am (Kd.R_lower (Kd.R_new' ho0 (Kd.R_lt zq45)) (below_size zq1));have n2_:=am (blk_below (g:=gb101) (o:=.cells #[.slice A0_0 l0_0.length c0_0,.slice A0_1 l0_1.length c0_1] 33 (0,0)) zq4 hb);have n3_:=am (below_step zq1 hb);clear HO_11;clear BK101;clear HB;have HO_11:=n0_;have HO108:=n1_;have BK101:=n2_;have HB:=n3_;clear n0_ n1_ n2_ n3_;(try clear hb);(try clear hb2);(try clear hk);(try clear hi);(try clear ho0);obtain ⟨Ao19,co19,eo19⟩:=Kd.R_slice HO_11.out;subst eo19;obtain ⟨Ao20,co20,eo20⟩:=Kd.R_slice HO108.out;subst eo20)|((with_reducible refine gate_callee (f:=53) rfl ?_);refine goesL_ (some 38) rfl rfl Try.func53 zq16 rfl #[.slice Ao19 t103.length co19,.slice Ao20 t106.length co20] rfl zq0 ?_;(with_reducible refine (spec_l05Far.calls _ _ t103 _ _ t106 t109 _ ?side1 ?side2 ?side3 ?side4 A16.out).mono ?_);(case side1=>exact zq55);(case side2=>exact (Kd.R_reads' HO_11.out).2.1);(case side3=>exact zq31);(case side4=>exact (Kd.R_reads' HO108.out).2.1);rintro e w' ⟨rfl,⟨nd,rfl⟩⟩;refine ⟨_,rfl,?_⟩))
          go_roundg k2
          case measure=>have:=HK1.out;have:=HK2.out;omega
          case rel=>exact ⟨(x10_1),(x12_2),(t109),(wrap64 (x12_2 + 1)),zq3,zq3,zq3,zq3,H',⟨by have:=HK1.out;have:=HK2.out;omega⟩,⟨by (with_reducible repeat (first|apply Kd.R_alloc|apply Kd.R_drewN|apply Kd.R_drew));exact Kd.R_mono HO_11.out (fun _ hk=>trivial)⟩,⟨by (with_reducible repeat (first|refine blk_drewN ?_ _|refine blk_drew ?_|refine blk_alloc ?_ _));exact BK101.out⟩,⟨by repeat (first|(with_reducible first|exact HB.out|apply below_alloc|apply pw_below_drewN|apply below_drew1|refine below_set ?_ GE101.out)|exact HB.out)⟩⟩
         ·rw [if_neg c17] at H;have c17b0:decide (x9_2 < 0)=false:=decide_eq_false c17;clear c17
          by_cases c21:t109 < x9_2
          ·rw [if_pos c21] at H;have c21b0:decide (t109 < x9_2)=true:=decide_eq_true c21;clear c21;have H':=am H;clear H
           go_wp2_with (first|((with_reducible refine gate_callee (f:=42) rfl ?_);refine goesL_ (some 37) rfl rfl Try.func42 zq16 rfl #[.pointer (some ⟨gb101,0,none⟩),.int .i64 x12_2] rfl zq0 ?_;(with_reducible refine (spec_l05Sights.calls A0_0 c0_0 l0_0 A0_1 c0_1 l0_1 x12_2 t106 _ ?side1 ?side2 ?side3 ?side4 ?side5 A15.out).mono ?_);(case side1=>exact zq6);(case side2=>exact HC0_0.out);(case side3=>exact zq7);(case side4=>exact HC0_1.out);(case side5=>exact zq4);rintro e w22 ⟨v107,rfl,ho0,hb⟩;refine ⟨_,rfl,?_⟩;have n0_:=am (Kd.R_elder' zq45 (Kd.R_base ho0) hb);have n1_:=am (Kd.R_lower (Kd.R_new' ho0 (Kd.R_lt zq45)) (below_size zq1));have n2_:=am (blk_below (g:=gb101) (o:=.cells #[.slice A0_0 l0_0.length c0_0,.slice A0_1 l0_1.length c0_1] 33 (0,0)) zq4 hb);have n3_:=am (below_step zq1 hb);clear HO_11;clear BK101;clear HB;have HO_11:=n0_;have HO108:=n1_;have BK101:=n2_;have HB:=n3_;clear n0_ n1_ n2_ n3_;(try clear hb);(try clear hb2);(try clear hk);(try clear hi);(try clear ho0);obtain ⟨Ao23,co23,eo23⟩:=Kd.R_slice HO_11.out;subst eo23;obtain ⟨Ao24,co24,eo24⟩:=Kd.R_slice HO108.out;subst eo24)|((with_reducible refine gate_callee (f:=53) rfl ?_);refine goesL_ (some 38) rfl rfl Try.func53 zq16 rfl #[.slice Ao23 t103.length co23,.slice Ao24 t106.length co24] rfl zq0 ?_;(with_reducible refine (spec_l05Far.calls _ _ t103 _ _ t106 t109 _ ?side1 ?side2 ?side3 ?side4 A16.out).mono ?_);(case side1=>exact zq55);(case side2=>exact (Kd.R_reads' HO_11.out).2.1);(case side3=>exact zq31);(case side4=>exact (Kd.R_reads' HO108.out).2.1);rintro e w' ⟨rfl,⟨nd,rfl⟩⟩;refine ⟨_,rfl,?_⟩))
           go_roundg k2
           case measure=>have:=HK1.out;have:=HK2.out;omega
           case rel=>exact ⟨(x10_1),(x12_2),(t109),(wrap64 (x12_2 + 1)),zq3,zq3,zq3,zq3,H',⟨by have:=HK1.out;have:=HK2.out;omega⟩,⟨by (with_reducible repeat (first|apply Kd.R_alloc|apply Kd.R_drewN|apply Kd.R_drew));exact Kd.R_mono HO_11.out (fun _ hk=>trivial)⟩,⟨by (with_reducible repeat (first|refine blk_drewN ?_ _|refine blk_drew ?_|refine blk_alloc ?_ _));exact BK101.out⟩,⟨by repeat (first|(with_reducible first|exact HB.out|apply below_alloc|apply pw_below_drewN|apply below_drew1|refine below_set ?_ GE101.out)|exact HB.out)⟩⟩
          ·rw [if_neg c21] at H;have c21b0:decide (t109 < x9_2)=false:=decide_eq_false c21;clear c21;have H':=am H;clear H
           go_wp2_with (first|((with_reducible refine gate_callee (f:=42) rfl ?_);refine goesL_ (some 37) rfl rfl Try.func42 zq16 rfl #[.pointer (some ⟨gb101,0,none⟩),.int .i64 x12_2] rfl zq0 ?_;(with_reducible refine (spec_l05Sights.calls A0_0 c0_0 l0_0 A0_1 c0_1 l0_1 x12_2 t106 _ ?side1 ?side2 ?side3 ?side4 ?side5 A15.out).mono ?_);(case side1=>exact zq6);(case side2=>exact HC0_0.out);(case side3=>exact zq7);(case side4=>exact HC0_1.out);(case side5=>exact zq4);rintro e w25 ⟨v107,rfl,ho0,hb⟩;refine ⟨_,rfl,?_⟩;have n0_:=am (Kd.R_elder' zq45 (Kd.R_base ho0) hb);have n1_:=am (Kd.R_lower (Kd.R_new' ho0 (Kd.R_lt zq45)) (below_size zq1));have n2_:=am (blk_below (g:=gb101) (o:=.cells #[.slice A0_0 l0_0.length c0_0,.slice A0_1 l0_1.length c0_1] 33 (0,0)) zq4 hb);have n3_:=am (below_step zq1 hb);clear HO_11;clear BK101;clear HB;have HO_11:=n0_;have HO108:=n1_;have BK101:=n2_;have HB:=n3_;clear n0_ n1_ n2_ n3_;(try clear hb);(try clear hb2);(try clear hk);(try clear hi);(try clear ho0);obtain ⟨Ao26,co26,eo26⟩:=Kd.R_slice HO_11.out;subst eo26;obtain ⟨Ao27,co27,eo27⟩:=Kd.R_slice HO108.out;subst eo27)|((with_reducible refine gate_callee (f:=53) rfl ?_);refine goesL_ (some 38) rfl rfl Try.func53 zq16 rfl #[.slice Ao26 t103.length co26,.slice Ao27 t106.length co27] rfl zq0 ?_;(with_reducible refine (spec_l05Far.calls _ _ t103 _ _ t106 t109 _ ?side1 ?side2 ?side3 ?side4 A16.out).mono ?_);(case side1=>exact zq55);(case side2=>exact (Kd.R_reads' HO_11.out).2.1);(case side3=>exact zq31);(case side4=>exact (Kd.R_reads' HO108.out).2.1);rintro e w' ⟨rfl,⟨nd,rfl⟩⟩;refine ⟨_,rfl,?_⟩))
           go_roundg k2
           case measure=>have:=HK1.out;have:=HK2.out;omega
           case rel=>exact ⟨(x7_2),(x8_2),(x9_2),(wrap64 (x12_2 + 1)),zq3,zq3,zq3,zq3,H',⟨by have:=HK1.out;have:=HK2.out;omega⟩,⟨by (with_reducible repeat (first|apply Kd.R_alloc|apply Kd.R_drewN|apply Kd.R_drew));exact Kd.R_mono HO_11.out (fun _ hk=>trivial)⟩,⟨by (with_reducible repeat (first|refine blk_drewN ?_ _|refine blk_drew ?_|refine blk_alloc ?_ _));exact BK101.out⟩,⟨by repeat (first|(with_reducible first|exact HB.out|apply below_alloc|apply pw_below_drewN|apply below_drew1|refine below_set ?_ GE101.out)|exact HB.out)⟩⟩
        ·rw [if_neg c14] at H;have c14b0:decide (x12_2 < (l0_1.length:Int))=false:=decide_eq_false c14;clear c14;have H':=am H;clear H
         go_wp2
         go_roundg k2
         case measure=>have:=HK1.out;have:=HK2.out;omega
         case rel=>exact ⟨(x7_2),(x8_2),(x9_2),(wrap64 (x10_1 + 1)),zq3,zq3,zq3,zq3,H',⟨by have:=HK1.out;have:=HK2.out;omega⟩,⟨by (with_reducible repeat (first|refine blk_drewN ?_ _|refine blk_drew ?_|refine blk_alloc ?_ _));exact BK101.out⟩,⟨by repeat (first|(with_reducible first|exact HB.out|apply below_alloc|apply pw_below_drewN|apply below_drew1|refine below_set ?_ GE101.out)|exact HB.out)⟩⟩
     ·rw [if_neg c11] at H;have c11b0:decide (x10_1 < (l0_1.length:Int))=false:=decide_eq_false c11;clear c11;simp only [Option.some.injEq,Prod.mk.injEq] at H;obtain ⟨rfl,rfl,rfl,rfl⟩:=H
      go_wp2
      refine bodyPost_ret (results_list (rs:=[.tmp 2,.tmp 3,.tmp 4,.tmp 5]) rfl (by simp) (.tmp (.tmp (.tmp (.tmp .nil))))) rfl ?_;exact ⟨by first|rfl|(simp [errW_none,errW_some,IntKind.wrap_i64,wrap64];done)|(simp [errW_none,errW_some] <;> rfl)|(simp [*,errW_none,errW_some] <;> rfl),by repeat (first|(with_reducible first|exact HB.out|apply below_alloc|apply pw_below_drewN|apply below_drew1|refine below_set ?_ GE101.out)|exact HB.out)⟩
 ·replace c3:=Bool.eq_false_iff.mpr c3;subst c3
  have H1:(some (0,0,0,1))=some (r1,r2,r3,r4):=by rw [if_neg (show ¬ (false=true) by decide)] at H;exact H
  clear H;have H:=H1;clear H1;simp only [Option.some.injEq,Prod.mk.injEq] at H;obtain ⟨rfl,rfl,rfl,rfl⟩:=H
  go_enter Try.func17,Try.ntmps17
  go_wp2_with (first|((with_reducible refine gate_dst (N:=1) rfl ?_);refine box_event ?hg (N:=1) ?hd (cs:=#[.slice A0_0 l0_0.length c0_0,.slice A0_1 l0_1.length c0_1]) (t:=33) ?hr ?_;(case hd=>rfl);(case hg=>rfl);(case hr=>exact zq15);intro gb101 hg w28 hbox hb;have n0_:=am (below_step zq2 hb);have n1_:=am (hbox);have n2_:=am ((by rw [hg];exact (below_size zq2):w.heap.size≤gb101));have n3_:=am ((by rw [hg];exact (below_size zq2):w.heap.size≤gb101));clear HB;have HB:=n0_;have BK101:=n1_;have GW101:=n2_;have GE101:=n3_;clear n0_ n1_ n2_ n3_;clear hb hbox hg)|((with_reducible refine gate_callee (f:=40) rfl ?_);refine goesL_ (some 14) rfl rfl Try.func40 zq16 rfl #[.pointer (some ⟨gb101,0,none⟩)] rfl zq0 ?_;(with_reducible refine (spec_l05Ok.calls k A0_0 c0_0 l0_0 A0_1 c0_1 l0_1 false _ ?side1 ?side2 ?side3 ?side4 ?side5 A2.out).mono ?_);(case side1=>exact zq6);(case side2=>exact HC0_0.out);(case side3=>exact zq7);(case side4=>exact HC0_1.out);(case side5=>exact zq4);rintro e w29 ⟨rfl,hb⟩;refine ⟨_,rfl,?_⟩;have n0_:=am (blk_below (g:=gb101) (o:=.cells #[.slice A0_0 l0_0.length c0_0,.slice A0_1 l0_1.length c0_1] 33 (0,0)) zq4 hb);have n1_:=am (below_step zq1 hb);clear BK101;clear HB;have BK101:=n0_;have HB:=n1_;clear n0_ n1_;(try clear hb);(try clear hb2);(try clear hk);(try clear hi)))
  refine bodyPost_ret (results_list (rs:=[.tmp 2,.tmp 3,.tmp 4,.tmp 5]) rfl (by simp) (.tmp (.tmp (.tmp (.tmp .nil))))) rfl ?_;exact ⟨by first|rfl|(simp [errW_none,errW_some,IntKind.wrap_i64,wrap64];done)|(simp [errW_none,errW_some] <;> rfl)|(simp [*,errW_none,errW_some] <;> rfl),by repeat (first|(with_reducible first|exact HB.out|apply below_alloc|apply pw_below_drewN|apply below_drew1|refine below_set ?_ GE101.out)|exact HB.out)⟩
end Go.Proofs.Ytgfknljhogfeaaa.G
end

section
namespace Go.Proofs.Ytgfknljhogfeaaa.G
open Go.RowKit Go.Proofs.YtgfknljhogfeaaaW.PrintWords Go.Proofs.YtgfknljhogfeaaaW.PrintLast Go.Proofs.YtgfknljhogfeaaaW.PrintMore
attribute [local go_sem] max2_int min2_int max_two min_two max_three min_three max_four min_four
set_option linter.unusedVariables false
set_option linter.unusedSimpArgs false
def IsS125 (w0 W:World) (g:Nat) (f0:List Int) (f1:Int) (f2:Int):Prop:=∃ A0 c0,W.heap[g]?=some (.cells #[.slice A0 f0.length c0,.int .i64 f1,.int .u64 f2] 125 (0,0))∧w0.heap.size≤g∧Kd.C (Kd.int .u8) w0 A0 f0.length f0
theorem IsS125.grown {w0 W:World} {g:Nat} {f0:List Int} {f1:Int} {f2:Int} {W1:World} {row:Option Nat} (h:IsS125 w0 W g f0 f1 f2) (hw:W.grownBy W1 row) (hne:some g≠row):IsS125 w0 W1 g f0 f1 f2:=by
 obtain ⟨A0,c0,hb,hg,hr0⟩:=h;exact ⟨A0,c0,blk_grown hb hw hne,hg,hr0⟩
theorem IsS125.below {w0 W:World} {g:Nat} {f0:List Int} {f1:Int} {f2:Int} {W1:World} (h:IsS125 w0 W g f0 f1 f2) (hw:Below W.heap.size W W1):IsS125 w0 W1 g f0 f1 f2:=h.grown (grown_of_below hw none) (by simp)
theorem IsS125.alloc {w0 W:World} {g:Nat} {f0:List Int} {f1:Int} {f2:Int} (h:IsS125 w0 W g f0 f1 f2) (o:Obj):IsS125 w0 (W.alloc o) g f0 f1 f2:=h.below (below_alloc (Below.refl _ _) o)
theorem IsS125.drewN {w0 W:World} {g:Nat} {f0:List Int} {f1:Int} {f2:Int} (h:IsS125 w0 W g f0 f1 f2) (m:Nat):IsS125 w0 (W.drewN m) g f0 f1 f2:=h
theorem IsS125.drew {w0 W:World} {g:Nat} {f0:List Int} {f1:Int} {f2:Int} (h:IsS125 w0 W g f0 f1 f2):IsS125 w0 W.drew g f0 f1 f2:=h
theorem IsS125.apart {w0 W:World} {g:Nat} {f0:List Int} {f1:Int} {f2:Int} {α:Type} {d:Kd α} {e:Nat} {base:Nat} {ok:Nat→Prop} {v:Value} {xs:List α} (h:IsS125 w0 W g f0 f1 f2) (ho:d.R e W base ok v xs) (ht:∀ q,q∈e :: d.E→q≠125):d.R e W base (fun k=>ok k∧k≠g) v xs:=by
 obtain ⟨A0,c0,hb,hg,hr0⟩:=h;exact Kd.R_types ho hb ht
theorem IsS125.own_ne {w0 W:World} {g:Nat} {f0:List Int} {f1:Int} {f2:Int} {α:Type} {d:Kd α} {e:Nat} {base:Nat} {ok:Nat→Prop} {v:Value} {xs:List α} (h:IsS125 w0 W g f0 f1 f2) (ho:d.R e W base ok v xs) (ht:e≠125):some g≠v.ownBlock:=by
 obtain ⟨A0,c0,hb,hg,hr0⟩:=h;exact Kd.R_ne ho hb ht
theorem IsS125.apartS {w0 W:World} {g:Nat} {f0:List Int} {f1:Int} {f2:Int} {α:Type} {d:Kd α} {e:Nat} {base:Nat} {ok:Nat→Prop} {v:Value} {xs:List α} (h:IsS125 w0 W g f0 f1 f2) (ho:d.S e W base ok v xs) (ht:∀ q,q∈e :: d.E→q≠125):d.S e W base (fun k=>ok k∧k≠g) v xs:=by
 obtain ⟨A0,c0,hb,hg,hr0⟩:=h;exact Kd.S_types ho hb ht
theorem IsS125.own_neS {w0 W:World} {g:Nat} {f0:List Int} {f1:Int} {f2:Int} {α:Type} {d:Kd α} {e:Nat} {base:Nat} {ok:Nat→Prop} {v:Value} {xs:List α} (h:IsS125 w0 W g f0 f1 f2) (ho:d.S e W base ok v xs) (ht:e≠125):some g≠v.ownBlock:=by
 obtain ⟨A0,c0,hb,hg,hr0⟩:=h;exact Kd.S_ne ho hb ht
theorem IsS125.lt {w0 W:World} {g:Nat} {f0:List Int} {f1:Int} {f2:Int} (h:IsS125 w0 W g f0 f1 f2):g < W.heap.size:=by
 obtain ⟨A0,c0,hb,hg,hr0⟩:=h;exact blk_lt hb
theorem IsS125.ge {w0 W:World} {g:Nat} {f0:List Int} {f1:Int} {f2:Int} (h:IsS125 w0 W g f0 f1 f2):w0.heap.size≤g:=by
 obtain ⟨A0,c0,hb,hg,hr0⟩:=h;exact hg
theorem IsS125.ne_blk {w0 W:World} {g:Nat} {f0:List Int} {f1:Int} {f2:Int} {a:Nat} {cs:Array Value} {t:TypeId} {fr:Nat × Nat} (h:IsS125 w0 W g f0 f1 f2) (hb2:W.heap[a]?=some (.cells cs t fr)) (ht:t≠125):g≠a:=by
 obtain ⟨A0,c0,hb,hg,hr0⟩:=h
 rintro rfl
 rw [hb] at hb2
 injection hb2 with hb2
 injection hb2 with _ ht2
 exact ht ht2.symm
theorem IsS125.far {w0 W:World} {g:Nat} {f0:List Int} {f1:Int} {f2:Int} {p:Addr} (h:IsS125 w0 W g f0 f1 f2) (hne:g≠p.block) (u:Value):IsS125 w0 (W.setCell p u) g f0 f1 f2:=by
 obtain ⟨A0,c0,hb,hg,hr0⟩:=h;exact ⟨A0,c0,blk_far hb hne u,hg,hr0⟩
theorem cellS125_0 {W:World} {g:Nat} {A0:Option Addr} {c0:Nat} {f0:List Int} {f1:Int} {f2:Int} (h:W.heap[g]?=some (.cells #[.slice A0 f0.length c0,.int .i64 f1,.int .u64 f2] 125 (0,0))):W.cell? ⟨g,0,none⟩=some (.slice A0 f0.length c0):=(blk_cell h 0).trans rfl
theorem cellS125_1 {W:World} {g:Nat} {A0:Option Addr} {c0:Nat} {f0:List Int} {f1:Int} {f2:Int} (h:W.heap[g]?=some (.cells #[.slice A0 f0.length c0,.int .i64 f1,.int .u64 f2] 125 (0,0))):W.cell? ⟨g,1,none⟩=some (.int .i64 f1):=(blk_cell h 1).trans rfl
theorem IsS125.set_1 {w0 W:World} {g:Nat} {f0:List Int} {f1:Int} {f2:Int} (h:IsS125 w0 W g f0 f1 f2) (x:Int):IsS125 w0 (W.setCell ⟨g,1,none⟩ (.int .i64 x)) g f0 x f2:=by
 obtain ⟨A0,c0,hb,hg,hr0⟩:=h;exact ⟨A0,c0,by simpa using blk_set hb 1 (.int .i64 x),hg,hr0⟩
theorem cellS125_2 {W:World} {g:Nat} {A0:Option Addr} {c0:Nat} {f0:List Int} {f1:Int} {f2:Int} (h:W.heap[g]?=some (.cells #[.slice A0 f0.length c0,.int .i64 f1,.int .u64 f2] 125 (0,0))):W.cell? ⟨g,2,none⟩=some (.int .u64 f2):=(blk_cell h 2).trans rfl
theorem IsS125.set_2 {w0 W:World} {g:Nat} {f0:List Int} {f1:Int} {f2:Int} (h:IsS125 w0 W g f0 f1 f2) (x:Int):IsS125 w0 (W.setCell ⟨g,2,none⟩ (.int .u64 x)) g f0 f1 x:=by
 obtain ⟨A0,c0,hb,hg,hr0⟩:=h;exact ⟨A0,c0,by simpa using blk_set hb 2 (.int .u64 x),hg,hr0⟩
def spec_l00Src_next.f (s0_0:List Int) (s0_1:Int) (s0_2:Int):Option (Int × Int × Int):=if s0_1 < (s0_0.length:Int) then (if 0≤s0_1 then (if (wrap64 (s0_1 + 1))≤(s0_0.length:Int) then (some (wrap64 (rd s0_0 s0_1),wrap64 (s0_1 + 1),IntKind.u64.wrap ((IntKind.u64.wrap ((IntKind.u64.wrap (s0_2 * 6364136223846793005)) + (IntKind.u64.wrap (wrap64 (rd s0_0 s0_1))))) + 1442695040888963407))) else (some (wrap64 (Go.bits .and .u64 ((IntKind.u64.wrap ((IntKind.u64.wrap ((IntKind.u64.wrap (s0_2 * 6364136223846793005)) + (IntKind.u64.wrap (wrap64 (rd s0_0 s0_1))))) + 1442695040888963407)) / 1099511627776) 255),wrap64 (s0_1 + 1),IntKind.u64.wrap ((IntKind.u64.wrap ((IntKind.u64.wrap (s0_2 * 6364136223846793005)) + (IntKind.u64.wrap (wrap64 (rd s0_0 s0_1))))) + 1442695040888963407)))) else (none)) else (if (wrap64 (s0_1 + 1))≤(s0_0.length:Int) then (some (0,wrap64 (s0_1 + 1),IntKind.u64.wrap ((IntKind.u64.wrap ((IntKind.u64.wrap (s0_2 * 6364136223846793005)))) + 1442695040888963407))) else (some (wrap64 (Go.bits .and .u64 ((IntKind.u64.wrap ((IntKind.u64.wrap ((IntKind.u64.wrap (s0_2 * 6364136223846793005)))) + 1442695040888963407)) / 1099511627776) 255),wrap64 (s0_1 + 1),IntKind.u64.wrap ((IntKind.u64.wrap ((IntKind.u64.wrap (s0_2 * 6364136223846793005)))) + 1442695040888963407))))
set_option maxHeartbeats 8000000 in
set_option maxRecDepth 100000 in
theorem spec_l00Src_next.calls (g:Nat) (s0_0:List Int) (s0_1:Int) (s0_2:Int) (r1:Int) (r2:Int) (r3:Int) (w0 w:World) (hI:IsS125 w0 w g s0_0 s0_1 s0_2) (hB:Below w0.heap.size w0 w) (h:spec_l00Src_next.f s0_0 s0_1 s0_2=some (r1,r2,r3)) :
  Calls Try.prog 96 #[.pointer (some ⟨g,0,none⟩)] w fun e w'=>e=.returned (.int .i64 r1)∧IsS125 w0 w' g s0_0 r2 r3∧Below w0.heap.size w0 w'∧KeepBut w w' g none:=by
 have HI0:=am hI;have HK:=am (KeepBut.refl w g none);have HL:=am hB.size;clear hI;have HW0:=am hB.size;have HB:=am hB;clear hB;have H:(if s0_1 < (s0_0.length:Int) then (if 0≤s0_1 then (if (wrap64 (s0_1 + 1))≤(s0_0.length:Int) then (some (wrap64 (rd s0_0 s0_1),wrap64 (s0_1 + 1),IntKind.u64.wrap ((IntKind.u64.wrap ((IntKind.u64.wrap (s0_2 * 6364136223846793005)) + (IntKind.u64.wrap (wrap64 (rd s0_0 s0_1))))) + 1442695040888963407))) else (some (wrap64 (Go.bits .and .u64 ((IntKind.u64.wrap ((IntKind.u64.wrap ((IntKind.u64.wrap (s0_2 * 6364136223846793005)) + (IntKind.u64.wrap (wrap64 (rd s0_0 s0_1))))) + 1442695040888963407)) / 1099511627776) 255),wrap64 (s0_1 + 1),IntKind.u64.wrap ((IntKind.u64.wrap ((IntKind.u64.wrap (s0_2 * 6364136223846793005)) + (IntKind.u64.wrap (wrap64 (rd s0_0 s0_1))))) + 1442695040888963407)))) else (none)) else (if (wrap64 (s0_1 + 1))≤(s0_0.length:Int) then (some (0,wrap64 (s0_1 + 1),IntKind.u64.wrap ((IntKind.u64.wrap ((IntKind.u64.wrap (s0_2 * 6364136223846793005)))) + 1442695040888963407))) else (some (wrap64 (Go.bits .and .u64 ((IntKind.u64.wrap ((IntKind.u64.wrap ((IntKind.u64.wrap (s0_2 * 6364136223846793005)))) + 1442695040888963407)) / 1099511627776) 255),wrap64 (s0_1 + 1),IntKind.u64.wrap ((IntKind.u64.wrap ((IntKind.u64.wrap (s0_2 * 6364136223846793005)))) + 1442695040888963407)))))=some (r1,r2,r3):=h;clear h
 by_cases c2:s0_1 < (s0_0.length:Int)
 ·rw [if_pos c2] at H;have c2b0:decide (s0_1 < (s0_0.length:Int))=true:=decide_eq_true c2;clear c2
  by_cases c3:0≤s0_1
  ·rw [if_pos c3] at H;have c3b0:decide (0≤s0_1)=true:=decide_eq_true c3;clear c3
   by_cases c4:(wrap64 (s0_1 + 1))≤(s0_0.length:Int)
   ·rw [if_pos c4] at H;have c4b0:decide ((wrap64 (s0_1 + 1))≤(s0_0.length:Int))=true:=decide_eq_true c4;clear c4;simp only [Option.some.injEq,Prod.mk.injEq] at H;obtain ⟨rfl,rfl,rfl⟩:=H;obtain ⟨ASz5_0,cSz5_0,HGz5,hgz5,HSz5_0⟩:=HI0.out;have hcz5_0:=cellS125_0 HGz5;have hcz5_1:=cellS125_1 HGz5;have hcz5_2:=cellS125_2 HGz5;have hfz5_1:=blk_frozen HGz5 1;have hfz5_2:=blk_frozen HGz5 2;clear HGz5 hgz5;have p101:0≤(s0_1:Int):=of_decide_eq_true zq9;have q101:s0_1 < (s0_0.length:Int):=of_decide_eq_true zq9;obtain ⟨ad101,e101,hx101_0⟩:=Kd.at_int HSz5_0 s0_1 p101 q101;cases e101;replace hx101_0:=pw_cell_below HB.out hx101_0;replace p101:=eq_true p101;replace q101:=eq_true q101
    go_enter Try.func96,Try.ntmps96
    go_wp2
    repeat (go_quiet (fail);try go_wp2)
    go_ret
    exact ⟨by first|rfl|(simp [errW_none,errW_some,IntKind.wrap_i64,wrap64];done)|(simp [errW_none,errW_some] <;> rfl)|(simp [*,errW_none,errW_some] <;> rfl),by repeat (first|(with_reducible first|exact HI0.out|apply IsS125.alloc|apply IsS125.drewN|apply IsS125.drew|apply IsS125.set_1|apply IsS125.set_2)|exact HI0.out),by repeat (first|(with_reducible first|exact HB.out|apply below_alloc|apply pw_below_drewN|apply below_drew1|refine below_set ?_ (IsS125.ge HI0.out))|exact HB.out),by repeat (first|(with_reducible first|exact HK.out|apply KeepBut.set_|apply keep_drewN|apply keep_drew|apply keep_alloc)|exact HK.out)⟩
   ·rw [if_neg c4] at H;have c4b0:decide ((wrap64 (s0_1 + 1))≤(s0_0.length:Int))=false:=decide_eq_false c4;clear c4;simp only [Option.some.injEq,Prod.mk.injEq] at H;obtain ⟨rfl,rfl,rfl⟩:=H;obtain ⟨ASz6_0,cSz6_0,HGz6,hgz6,HSz6_0⟩:=HI0.out;have hcz6_0:=cellS125_0 HGz6;have hcz6_1:=cellS125_1 HGz6;have hcz6_2:=cellS125_2 HGz6;have hfz6_1:=blk_frozen HGz6 1;have hfz6_2:=blk_frozen HGz6 2;clear HGz6 hgz6;have p101:0≤(s0_1:Int):=of_decide_eq_true zq9;have q101:s0_1 < (s0_0.length:Int):=of_decide_eq_true zq9;obtain ⟨ad101,e101,hx101_0⟩:=Kd.at_int HSz6_0 s0_1 p101 q101;cases e101;replace hx101_0:=pw_cell_below HB.out hx101_0;replace p101:=eq_true p101;replace q101:=eq_true q101
    go_enter Try.func96,Try.ntmps96
    go_wp2
    repeat (go_quiet (fail);try go_wp2)
    go_ret
    exact ⟨by first|rfl|(simp [errW_none,errW_some,IntKind.wrap_i64,wrap64];done)|(simp [errW_none,errW_some] <;> rfl)|(simp [*,errW_none,errW_some] <;> rfl),by repeat (first|(with_reducible first|exact HI0.out|apply IsS125.alloc|apply IsS125.drewN|apply IsS125.drew|apply IsS125.set_1|apply IsS125.set_2)|exact HI0.out),by repeat (first|(with_reducible first|exact HB.out|apply below_alloc|apply pw_below_drewN|apply below_drew1|refine below_set ?_ (IsS125.ge HI0.out))|exact HB.out),by repeat (first|(with_reducible first|exact HK.out|apply KeepBut.set_|apply keep_drewN|apply keep_drew|apply keep_alloc)|exact HK.out)⟩
  ·rw [if_neg c3] at H;exact absurd H (by simp)
 ·rw [if_neg c2] at H;have c2b0:decide (s0_1 < (s0_0.length:Int))=false:=decide_eq_false c2;clear c2
  by_cases c7:(wrap64 (s0_1 + 1))≤(s0_0.length:Int)
  ·rw [if_pos c7] at H;have c7b0:decide ((wrap64 (s0_1 + 1))≤(s0_0.length:Int))=true:=decide_eq_true c7;clear c7;simp only [Option.some.injEq,Prod.mk.injEq] at H;obtain ⟨rfl,rfl,rfl⟩:=H;obtain ⟨ASz8_0,cSz8_0,HGz8,hgz8,HSz8_0⟩:=HI0.out;have hcz8_0:=cellS125_0 HGz8;have hcz8_1:=cellS125_1 HGz8;have hcz8_2:=cellS125_2 HGz8;have hfz8_1:=blk_frozen HGz8 1;have hfz8_2:=blk_frozen HGz8 2;clear HGz8 hgz8
   go_enter Try.func96,Try.ntmps96
   go_wp2
   repeat (go_quiet (fail);try go_wp2)
   go_ret
   exact ⟨by first|rfl|(simp [errW_none,errW_some,IntKind.wrap_i64,wrap64];done)|(simp [errW_none,errW_some] <;> rfl)|(simp [*,errW_none,errW_some] <;> rfl),by repeat (first|(with_reducible first|exact HI0.out|apply IsS125.alloc|apply IsS125.drewN|apply IsS125.drew|apply IsS125.set_1|apply IsS125.set_2)|exact HI0.out),by repeat (first|(with_reducible first|exact HB.out|apply below_alloc|apply pw_below_drewN|apply below_drew1|refine below_set ?_ (IsS125.ge HI0.out))|exact HB.out),by repeat (first|(with_reducible first|exact HK.out|apply KeepBut.set_|apply keep_drewN|apply keep_drew|apply keep_alloc)|exact HK.out)⟩
  ·rw [if_neg c7] at H;have c7b0:decide ((wrap64 (s0_1 + 1))≤(s0_0.length:Int))=false:=decide_eq_false c7;clear c7;simp only [Option.some.injEq,Prod.mk.injEq] at H;obtain ⟨rfl,rfl,rfl⟩:=H;obtain ⟨ASz9_0,cSz9_0,HGz9,hgz9,HSz9_0⟩:=HI0.out;have hcz9_0:=cellS125_0 HGz9;have hcz9_1:=cellS125_1 HGz9;have hcz9_2:=cellS125_2 HGz9;have hfz9_1:=blk_frozen HGz9 1;have hfz9_2:=blk_frozen HGz9 2;clear HGz9 hgz9
   go_enter Try.func96,Try.ntmps96
   go_wp2
   repeat (go_quiet (fail);try go_wp2)
   go_ret
   exact ⟨by first|rfl|(simp [errW_none,errW_some,IntKind.wrap_i64,wrap64];done)|(simp [errW_none,errW_some] <;> rfl)|(simp [*,errW_none,errW_some] <;> rfl),by repeat (first|(with_reducible first|exact HI0.out|apply IsS125.alloc|apply IsS125.drewN|apply IsS125.drew|apply IsS125.set_1|apply IsS125.set_2)|exact HI0.out),by repeat (first|(with_reducible first|exact HB.out|apply below_alloc|apply pw_below_drewN|apply below_drew1|refine below_set ?_ (IsS125.ge HI0.out))|exact HB.out),by repeat (first|(with_reducible first|exact HK.out|apply KeepBut.set_|apply keep_drewN|apply keep_drew|apply keep_alloc)|exact HK.out)⟩
end Go.Proofs.Ytgfknljhogfeaaa.G
end

section
namespace Go.Proofs.Ytgfknljhogfeaaa.G
open Go.RowKit Go.Proofs.YtgfknljhogfeaaaW.PrintWords Go.Proofs.YtgfknljhogfeaaaW.PrintLast Go.Proofs.YtgfknljhogfeaaaW.PrintMore
attribute [local go_sem] max2_int min2_int max_two min_two max_three min_three max_four min_four
set_option linter.unusedVariables false
set_option linter.unusedSimpArgs false
def spec_l00From.f (l0:List Int):Option (List Int × Int × Int):=some (l0,0,0)
set_option maxHeartbeats 8000000 in
set_option maxRecDepth 100000 in
theorem spec_l00From.calls (A0:Option Addr) (c0:Nat) (l0:List Int) (r1:List Int) (r2:Int) (r3:Int) (w0 w:World) (hB:Below w0.heap.size w0 w) (hr0:Kd.C (Kd.int .u8) w0 A0 l0.length l0) (hc0:l0.length≤c0) (h:spec_l00From.f l0=some (r1,r2,r3)) :
  Calls Try.prog 63 #[.slice A0 l0.length c0] w fun e w'=>∃ g_:Nat,e=.returned (.pointer (some ⟨g_,0,none⟩))∧IsS125 w0 w' g_ r1 r2 r3∧Below w0.heap.size w0 w'∧Below w.heap.size w w':=by
 have hu125:=Try.underlying125;have HR0:=am hr0;have HC0:=am hc0;clear hr0 hc0;have HBW:=am (Below.refl w.heap.size w);have HW0:=am hB.size;have HB:=am hB;clear hB;have H:(some (l0,0,0))=some (r1,r2,r3):=h;clear h;simp only [Option.some.injEq,Prod.mk.injEq] at H;obtain ⟨rfl,rfl,rfl⟩:=H
 go_enter Try.func63,Try.ntmps63
 go_wp2_with (first|((with_reducible refine gate_dst (N:=5) rfl ?_);refine box_event ?hg (N:=5) ?hd (cs:=#[.slice A0 l0.length c0,.int .i64 0,.int .u64 0]) (t:=125) ?hr ?_;(case hd=>rfl);(case hg=>rfl);(case hr=>exact zq15);intro gb101 hg w2 hbox hb;have n0_:=am (below_step HBW.out hb);have n1_:=am (below_step zq2 hb);have n2_:=am (hbox);have n3_:=am ((by rw [hg];exact (below_size zq77):w.heap.size≤gb101));have n4_:=am ((Nat.le_trans HW0.out (by rw [hg];exact (below_size zq77):w.heap.size≤gb101):w0.heap.size≤gb101));clear HBW;clear HB;have HBW:=n0_;have HB:=n1_;have BK101:=n2_;have GW101:=n3_;have GE101:=n4_;clear n0_ n1_ n2_ n3_ n4_;clear hb hbox hg))
 go_ret
 exact ⟨_,rfl,(show IsS125 w0 _ gb101 l0 0 0 from ⟨_,_,by (with_reducible repeat (first|refine blk_drewN ?_ _|refine blk_drew ?_|refine blk_alloc ?_ _));exact BK101.out,GE101.out,HR0.out⟩),by repeat (first|(with_reducible first|exact HB.out|apply below_alloc|apply pw_below_drewN|apply below_drew1|refine below_set ?_ GE101.out)|exact HB.out),by repeat (first|(with_reducible first|exact HBW.out|apply below_alloc|apply pw_below_drewN|apply below_drew1|refine below_set ?_ GW101.out)|exact HBW.out)⟩
end Go.Proofs.Ytgfknljhogfeaaa.G
end

section
namespace Go.Proofs.Ytgfknljhogfeaaa.G
open Go.RowKit Go.Proofs.YtgfknljhogfeaaaW.PrintWords Go.Proofs.YtgfknljhogfeaaaW.PrintLast Go.Proofs.YtgfknljhogfeaaaW.PrintMore
attribute [local go_sem] max2_int min2_int max_two min_two max_three min_three max_four min_four
set_option linter.unusedVariables false
set_option linter.unusedSimpArgs false
def spec_l00Src_pick.f (s0_0:List Int) (s0_1:Int) (s0_2:Int) (a1:Int):Option (Int × Int × Int):=if a1≤1 then (some (0,s0_1,s0_2)) else ((spec_l00Src_next.f s0_0 s0_1 s0_2).bind fun bt101=>(if a1 > 200 then ((spec_l00Src_next.f s0_0 bt101.2.1 bt101.2.2).bind fun bt104=>(if a1=0 then (none) else (some (Int.tmod (wrap64 ((wrap64 (bt101.1 * 256)) + bt104.1)) a1,bt104.2.1,bt104.2.2)))) else (if a1=0 then (none) else (some (Int.tmod bt101.1 a1,bt101.2.1,bt101.2.2)))))
set_option maxHeartbeats 8000000 in
set_option maxRecDepth 100000 in
theorem spec_l00Src_pick.calls (g:Nat) (s0_0:List Int) (s0_1:Int) (s0_2:Int) (a1:Int) (r1:Int) (r2:Int) (r3:Int) (w0 w:World) (hI:IsS125 w0 w g s0_0 s0_1 s0_2) (hB:Below w0.heap.size w0 w) (h:spec_l00Src_pick.f s0_0 s0_1 s0_2 a1=some (r1,r2,r3)) :
  Calls Try.prog 67 #[.pointer (some ⟨g,0,none⟩),.int .i64 a1] w fun e w'=>e=.returned (.int .i64 r1)∧IsS125 w0 w' g s0_0 r2 r3∧Below w0.heap.size w0 w'∧KeepBut w w' g none:=by
 have HI0:=am hI;have HK:=am (KeepBut.refl w g none);have HL:=am hB.size;clear hI;have HW0:=am hB.size;have HB:=am hB;clear hB;have H:(if a1≤1 then (some (0,s0_1,s0_2)) else ((spec_l00Src_next.f s0_0 s0_1 s0_2).bind fun bt101=>(if a1 > 200 then ((spec_l00Src_next.f s0_0 bt101.2.1 bt101.2.2).bind fun bt104=>(if a1=0 then (none) else (some (Int.tmod (wrap64 ((wrap64 (bt101.1 * 256)) + bt104.1)) a1,bt104.2.1,bt104.2.2)))) else (if a1=0 then (none) else (some (Int.tmod bt101.1 a1,bt101.2.1,bt101.2.2))))))=some (r1,r2,r3):=h;clear h
 by_cases c3:a1≤1
 ·rw [if_pos c3] at H;have c3b0:decide (a1≤1)=true:=decide_eq_true c3;clear c3;simp only [Option.some.injEq,Prod.mk.injEq] at H;obtain ⟨rfl,rfl,rfl⟩:=H
  go_enter Try.func67,Try.ntmps67
  go_wp2
  go_ret
  exact ⟨by first|rfl|(simp [errW_none,errW_some,IntKind.wrap_i64,wrap64];done)|(simp [errW_none,errW_some] <;> rfl)|(simp [*,errW_none,errW_some] <;> rfl),by repeat (first|(with_reducible first|exact HI0.out|apply IsS125.alloc|apply IsS125.drewN|apply IsS125.drew|apply IsS125.set_1|apply IsS125.set_2)|exact HI0.out),by repeat (first|(with_reducible first|exact HB.out|apply below_alloc|apply pw_below_drewN|apply below_drew1|refine below_set ?_ (IsS125.ge HI0.out))|exact HB.out),by repeat (first|(with_reducible first|exact HK.out|apply KeepBut.set_|apply keep_drewN|apply keep_drew|apply keep_alloc)|exact HK.out)⟩
 ·rw [if_neg c3] at H;have c3b0:decide (a1≤1)=false:=decide_eq_false c3;clear c3;replace H:=Option.bind_eq_some_iff.mp H;obtain ⟨⟨t101,t102,t103⟩,A40,H⟩:=H;replace H:(if a1 > 200 then ((spec_l00Src_next.f s0_0 t102 t103).bind fun bt104=>(if a1=0 then (none) else (some (Int.tmod (wrap64 ((wrap64 (t101 * 256)) + bt104.1)) a1,bt104.2.1,bt104.2.2)))) else (if a1=0 then (none) else (some (Int.tmod t101 a1,t102,t103))))=some (r1,r2,r3):=H;have A4:=am A40;clear A40
  by_cases c5:a1 > 200
  ·rw [if_pos c5] at H;have c5b0:decide (200 < a1)=true:=decide_eq_true c5;clear c5;replace H:=Option.bind_eq_some_iff.mp H;obtain ⟨⟨t104,t105,t106⟩,A60,H⟩:=H;replace H:(if a1=0 then (none) else (some (Int.tmod (wrap64 ((wrap64 (t101 * 256)) + t104)) a1,t105,t106)))=some (r1,r2,r3):=H;have A6:=am A60;clear A60
   by_cases c7:a1=0
   ·rw [if_pos c7] at H;exact absurd H (by simp)
   ·rw [if_neg c7] at H;have c7b0:(a1 == 0)=false:=beq_eq_false_iff_ne.mpr c7;have c7b1:(a1 != 0)=true:=bne_iff_ne.mpr c7;simp only [Option.some.injEq,Prod.mk.injEq] at H;obtain ⟨rfl,rfl,rfl⟩:=H
    go_enter Try.func67,Try.ntmps67
    go_wp2_with (first|((with_reducible refine gate_callee (f:=96) rfl ?_);refine goesL_ (some 9) rfl rfl Try.func96 zq16 rfl #[.pointer (some ⟨g,0,none⟩)] rfl zq0 ?_;(with_reducible refine (spec_l00Src_next.calls g s0_0 s0_1 s0_2 t101 t102 t103 w0 _ ?side1 ?side2 A4.out).mono ?_);(case side1=>exact zq27);(case side2=>exact zq29);rintro e w8 ⟨rfl,hi,hb,hk⟩;refine ⟨_,rfl,?_⟩;have n0_:=am (KeepBut.trans zq24 hk (.inl rfl));have n1_:=am (hb);have n2_:=am (hi);clear HK;clear HB;clear HI0;have HK:=n0_;have HB:=n1_;have HI0:=n2_;clear n0_ n1_ n2_;(try clear hb);(try clear hb2);(try clear hk);(try clear hi))|((with_reducible refine gate_callee (f:=96) rfl ?_);refine goesL_ (some 15) rfl rfl Try.func96 zq16 rfl #[.pointer (some ⟨g,0,none⟩)] rfl zq0 ?_;(with_reducible refine (spec_l00Src_next.calls g s0_0 t102 t103 t104 t105 t106 w0 _ ?side1 ?side2 A6.out).mono ?_);(case side1=>exact zq27);(case side2=>exact zq29);rintro e w9 ⟨rfl,hi,hb,hk⟩;refine ⟨_,rfl,?_⟩;have n0_:=am (KeepBut.trans zq24 hk (.inl rfl));have n1_:=am (hb);have n2_:=am (hi);clear HK;clear HB;clear HI0;have HK:=n0_;have HB:=n1_;have HI0:=n2_;clear n0_ n1_ n2_;(try clear hb);(try clear hb2);(try clear hk);(try clear hi)))
    go_ret
    exact ⟨by first|rfl|(simp [errW_none,errW_some,IntKind.wrap_i64,wrap64];done)|(simp [errW_none,errW_some] <;> rfl)|(simp [*,errW_none,errW_some] <;> rfl),by repeat (first|(with_reducible first|exact HI0.out|apply IsS125.alloc|apply IsS125.drewN|apply IsS125.drew|apply IsS125.set_1|apply IsS125.set_2)|exact HI0.out),by repeat (first|(with_reducible first|exact HB.out|apply below_alloc|apply pw_below_drewN|apply below_drew1|refine below_set ?_ (IsS125.ge HI0.out))|exact HB.out),by repeat (first|(with_reducible first|exact HK.out|apply KeepBut.set_|apply keep_drewN|apply keep_drew|apply keep_alloc)|exact HK.out)⟩
  ·rw [if_neg c5] at H;have c5b0:decide (200 < a1)=false:=decide_eq_false c5;clear c5
   by_cases c10:a1=0
   ·rw [if_pos c10] at H;exact absurd H (by simp)
   ·rw [if_neg c10] at H;have c10b0:(a1 == 0)=false:=beq_eq_false_iff_ne.mpr c10;have c10b1:(a1 != 0)=true:=bne_iff_ne.mpr c10;simp only [Option.some.injEq,Prod.mk.injEq] at H;obtain ⟨rfl,rfl,rfl⟩:=H
    go_enter Try.func67,Try.ntmps67
    go_wp2_with (first|((with_reducible refine gate_callee (f:=96) rfl ?_);refine goesL_ (some 9) rfl rfl Try.func96 zq16 rfl #[.pointer (some ⟨g,0,none⟩)] rfl zq0 ?_;(with_reducible refine (spec_l00Src_next.calls g s0_0 s0_1 s0_2 t101 t102 t103 w0 _ ?side1 ?side2 A4.out).mono ?_);(case side1=>exact zq27);(case side2=>exact zq29);rintro e w11 ⟨rfl,hi,hb,hk⟩;refine ⟨_,rfl,?_⟩;have n0_:=am (KeepBut.trans zq24 hk (.inl rfl));have n1_:=am (hb);have n2_:=am (hi);clear HK;clear HB;clear HI0;have HK:=n0_;have HB:=n1_;have HI0:=n2_;clear n0_ n1_ n2_;(try clear hb);(try clear hb2);(try clear hk);(try clear hi)))
    go_ret
    exact ⟨by first|rfl|(simp [errW_none,errW_some,IntKind.wrap_i64,wrap64];done)|(simp [errW_none,errW_some] <;> rfl)|(simp [*,errW_none,errW_some] <;> rfl),by repeat (first|(with_reducible first|exact HI0.out|apply IsS125.alloc|apply IsS125.drewN|apply IsS125.drew|apply IsS125.set_1|apply IsS125.set_2)|exact HI0.out),by repeat (first|(with_reducible first|exact HB.out|apply below_alloc|apply pw_below_drewN|apply below_drew1|refine below_set ?_ (IsS125.ge HI0.out))|exact HB.out),by repeat (first|(with_reducible first|exact HK.out|apply KeepBut.set_|apply keep_drewN|apply keep_drew|apply keep_alloc)|exact HK.out)⟩
end Go.Proofs.Ytgfknljhogfeaaa.G
end

section
namespace Go.Proofs.Ytgfknljhogfeaaa.G
open Go.RowKit Go.Proofs.YtgfknljhogfeaaaW.PrintWords Go.Proofs.YtgfknljhogfeaaaW.PrintLast Go.Proofs.YtgfknljhogfeaaaW.PrintMore
attribute [local go_sem] max2_int min2_int max_two min_two max_three min_three max_four min_four
set_option linter.unusedVariables false
set_option linter.unusedSimpArgs false
def otherB (kind i:Nat):Bool:=match kind with
  | 0=>i % 6 == 2 || i % 6 == 3 || i / 6 == 1 || i / 6 == 2
  | 1=>i % 6 == 0 || i % 6 == 5 || i / 6 == 0 || i / 6 == 3
  | 2=>(i % 6 + i / 6) % 2 == 1
  | _=>false
def madeB (a b:Int) (kind i:Nat):Int:=if otherB kind i=true then b else a
def doneB (f:Nat→Int) (n i:Nat):List Int:=(List.range i).map f ++ List.replicate (n - i) 0
theorem doneB_len (f:Nat→Int) {n i:Nat} (h:i≤n):(doneB f n i).length=n:=by
  unfold doneB
  rw [List.length_append,List.length_map,List.length_range,List.length_replicate]
  omega
theorem doneB_zero (f:Nat→Int) (n:Nat):doneB f n 0=List.replicate n 0:=by simp [doneB]
theorem doneB_all (f:Nat→Int) (n:Nat):doneB f n n=(List.range n).map f:=by simp [doneB]
theorem doneB_put (f:Nat→Int) {n i:Nat} (h:i < n):(doneB f n i).set i (f i)=doneB f n (i + 1):=by
  unfold doneB
  obtain ⟨m,hm⟩:∃ m,n - i=m + 1:=⟨n - i - 1,by omega⟩
  rw [List.set_append_right _ _ (by simp),List.length_map,List.length_range,Nat.sub_self,hm,List.replicate_succ,List.set_cons_zero,show n - (i + 1)=m by omega,List.range_succ,List.map_append,List.append_assoc]
  rfl
theorem fill1 {w W:World} {k:IntKind} {t b2 b4 n i:Nat} {zs:List Int} {f:Nat→Int} (hB:Below w.heap.size w W) (hL:IsBox k t W b2 zs) (hM:IsBox k t W b4 (doneB f n i)) (hne:b2≠b4) (hg:w.heap.size≤b4) (hi:i < n) {v:Int} (hv:f i=v):Below w.heap.size w (W.setCell ⟨b4,i,none⟩ (.int k v))∧IsBox k t (W.setCell ⟨b4,i,none⟩ (.int k v)) b2 zs∧IsBox k t (W.setCell ⟨b4,i,none⟩ (.int k v)) b4 (doneB f n (i + 1)):=by
  subst hv
  exact ⟨below_set hB hg,box_far hL hne _,by rw [← doneB_put f hi]; exact box_set hM i _⟩
theorem fill2 {w W:World} {k:IntKind} {t b2 b4 n i:Nat} {zs:List Int} {f:Nat→Int} (hB:Below w.heap.size w W) (hL:IsBox k t W b2 zs) (hM:IsBox k t W b4 (doneB f n i)) (hne:b2≠b4) (hg:w.heap.size≤b4) (hi:i < n) {u v:Int} (hv:f i=v):Below w.heap.size w ((W.setCell ⟨b4,i,none⟩ (.int k u)).setCell ⟨b4,i,none⟩ (.int k v))∧IsBox k t ((W.setCell ⟨b4,i,none⟩ (.int k u)).setCell ⟨b4,i,none⟩ (.int k v)) b2 zs∧IsBox k t ((W.setCell ⟨b4,i,none⟩ (.int k u)).setCell ⟨b4,i,none⟩ (.int k v)) b4 (doneB f n (i + 1)):=by
  subst hv
  exact ⟨below_set (below_set hB hg) hg,box_far (box_far hL hne _) hne _,by rw [← doneB_put f hi,← List.set_set (a:=u)]; exact box_set (box_set hM i _) i _⟩
def stripeB (up:Bool) (c0 c1 c2:Int) (i:Nat):Int:=[c0,c1,c2].getD ((if up=true then i % 6 else i / 6) * 3 / (if up=true then 6 else 4)) 0
theorem box_keep {w w1:World} {k:IntKind} {t b g:Nat} {xs:List Int} (h:IsBox k t w b xs) (hk:KeepBut w w1 g none) (hne:b≠g):IsBox k t w1 b xs:=(hk.2 b (blk_lt h) hne (by simp)).trans h
end Go.Proofs.Ytgfknljhogfeaaa.G
end

section
namespace Go.Proofs.Ytgfknljhogfeaaa.G
open Go.RowKit Go.Proofs.YtgfknljhogfeaaaW.PrintWords Go.Proofs.YtgfknljhogfeaaaW.PrintLast Go.Proofs.YtgfknljhogfeaaaW.PrintMore
attribute [local go_sem] max2_int min2_int max_two min_two max_three min_three max_four min_four
set_option linter.unusedVariables false
set_option linter.unusedSimpArgs false
def spec_l01Colour.f (a0:Int):Option (Bool):=(spec_l00In.f a0 0 5).bind fun t101=>(some t101)
set_option maxHeartbeats 8000000 in
set_option maxRecDepth 100000 in
theorem spec_l01Colour.calls (a0:Int) (r:Bool) (w:World) (h:spec_l01Colour.f a0=some r) :
  Calls Try.prog 113 #[.int .i64 a0] w fun e w'=>e=.returned (.bool r)∧Drawn0 w w':=by
 have H:((spec_l00In.f a0 0 5).bind fun t101=>(some t101))=some r:=h;clear h;replace H:=Option.bind_eq_some_iff.mp H;obtain ⟨t101,A20,H⟩:=H;replace H:(some t101)=some r:=H;have A2:=am A20;clear A20;obtain rfl:=Option.some.inj H
 go_enter Try.func113,Try.ntmps113
 go_wp2_with (first|((with_reducible refine gate_callee (f:=41) rfl ?_);refine goesL_ (some 4) rfl rfl Try.func41 zq16 rfl #[.int .i64 a0,.int .i64 0,.int .i64 5] rfl zq0 ?_;(with_reducible refine (spec_l00In.calls a0 0 5 t101 _ A2.out).mono ?_);rintro e w' ⟨rfl,⟨nd,rfl⟩⟩;refine ⟨_,rfl,?_⟩))
 go_ret
 exact ⟨by first|rfl|(simp only [IntKind.wrap_i64,wrap64];done)|(simp;done)|(simp [*];done),by repeat (first|exact Drawn0.refl _|apply Drawn0.step)⟩
end Go.Proofs.Ytgfknljhogfeaaa.G
end

section
namespace Go.Proofs.Ytgfknljhogfeaaa.G
open Go.RowKit Go.Proofs.YtgfknljhogfeaaaW.PrintWords Go.Proofs.YtgfknljhogfeaaaW.PrintLast Go.Proofs.YtgfknljhogfeaaaW.PrintMore
attribute [local go_sem] max2_int min2_int max_two min_two max_three min_three max_four min_four
set_option linter.unusedVariables false
set_option linter.unusedSimpArgs false
set_option maxHeartbeats 4000000 in
set_option maxRecDepth 100000 in
theorem spec_PlainFlag.core (a:Int) (h0:0≤a) (h5:a≤5) (w:World) :
  Calls Try.prog 105 #[.int .i64 a] w fun e w'=>e=.returned (.tuple #[.agg (nums .u8 ((List.range 24).map fun _=>a)).toArray,.int .i64 0])∧Below w.heap.size w w':=by
 have HB:=am (Below.refl w.heap.size w);have HIT:=am (show (Try.prog.info? 68).map (·.size)=some 24 from size68);have HCO:=am (show spec_l01Colour.f a=some true by unfold spec_l01Colour.f spec_l00In.f;rw [if_pos h0,decide_eq_true h5];rfl)
 have hm:a % 256=a:=by omega
 go_enter Try.func105,Try.ntmps105
 go_wp2_with (first|((with_reducible refine gate_dst (N:=2) rfl ?_);refine box_event ?hg (N:=2) ?hd (cs:=(nums .u8 (List.replicate 24 0)).toArray) (t:=68) ?hr ?_;(case hd=>rfl);(case hg=>rfl);(case hr=>exact zq15);intro b2 hg_ w2 hb_ hB_;have GE2:=am (show w.heap.size≤b2 by rw [hg_];exact below_size HB.out);have HB2:=am (below_step HB.out hB_);have BL2:=am (show IsBox .u8 68 w2 b2 (List.replicate 24 0) from hb_);clear hb_ hB_ hg_)|((with_reducible refine gate_dst (N:=4) rfl ?_);refine box_event ?hg (N:=4) ?hd (cs:=(nums .u8 (List.replicate 24 0)).toArray) (t:=68) ?hr ?_;(case hd=>rfl);(case hg=>rfl);(case hr=>exact zq15);intro b4 hg_ w4 hb_ hB_;have N42:=am (show b4≠b2 by rw [hg_];have:=box_lt BL2.out;omega);have GE4:=am (show w.heap.size≤b4 by rw [hg_];exact below_size HB2.out);have HB4:=am (below_step HB2.out hB_);have BL4:=am (box_below BL2.out hB_);have BM4:=am (show IsBox .u8 68 w4 b4 (List.replicate 24 0) from hb_);clear hb_ hB_ hg_)|((with_reducible refine gate_store (t:=68) (p:=4) rfl ?_);refine box_store (k:=.u8) (t:=68) (b:=b4) (xs:=(List.replicate 24 0)) (ys:=(List.replicate 24 0)) rfl rfl rfl rfl rfl BM4.out (by simp) zq67 ?_;intro w5 hw5;have BM5:=am (show IsBox .u8 68 w5 b4 (List.replicate 24 0) by rw [hw5];exact box_row BM4.out (List.replicate 24 0));have BL5:=am (show IsBox .u8 68 w5 b2 (List.replicate 24 0) by rw [hw5];exact box_apart BL4.out N42.out.symm _);have HB5:=am (show Below w.heap.size w w5 by rw [hw5];exact Go.below_setRow HB4.out GE4.out _);clear hw5)|(go_at_call 113;(with_reducible refine (spec_l01Colour.calls a true _ HCO.out).mono ?_);rintro e w6 ⟨rfl,⟨nd,rfl⟩⟩;have BM6:=am (box_below BM5.out (pw_below_drewN (Below.refl _ _) nd));have BL6:=am (box_below BL5.out (pw_below_drewN (Below.refl _ _) nd));have HB6:=am (pw_below_drewN HB5.out nd)))
 go_loopg [5] 25 (fun gg s5 wr=>∃ i:Nat,i≤24∧24 - i≤gg∧s5=.int .i64 i∧Aside0 (Below w.heap.size w wr)∧Aside0 (IsBox .u8 68 wr b2 (List.replicate 24 0))∧Aside0 (IsBox .u8 68 wr b4 (doneB (fun _=>a) 24 i)))
 case atStart=>exact ⟨0,by omega,by omega,rfl,HB6,BL6,⟨by rw [doneB_zero];exact BM6.out⟩⟩
 case round =>
  obtain ⟨i,hi,hg,rfl,HBr,BLr,BMr⟩:=hrel
  by_cases hlt:i < 24
  ·have hltz:(i:Int) < 24:=by omega
   have c4:=box_at BMr.out (show i < (doneB (fun _=>a) 24 i).length by rw [doneB_len _ hi];exact hlt);have f4:=box_frozen BMr.out i;have S4:=am (show IsBox .u8 68 (wr.setCell ⟨b4,i,none⟩ (.int .u8 a)) b4 (doneB (fun _=>a) 24 (i + 1)) by rw [← doneB_put (fun _=>a) hlt];exact box_set BMr.out i a);have L4:=am (box_far BLr.out (p:=⟨b4,i,none⟩) N42.out.symm (.int .u8 a));have B4:=am (below_set (j:=i) (v:=.int .u8 a) (h:=HBr.out) (hg:=GE4.out))
   go_wp2
   go_roundg (24 - (i + 1))
   case measure=>omega
   case rel=>exact ⟨i + 1,by omega,by omega,by go_num,by first|exact B4|(simp only [IntKind.wrap,hm];exact B4),by first|exact L4|(simp only [IntKind.wrap,hm];exact L4),by first|exact S4|(simp only [IntKind.wrap,hm];exact S4)⟩
  ·have:i=24:=by omega
   subst this;rw [doneB_all] at BMr;have HLN:=am (show ((List.range 24).map (fun _=>a)).length=24 by rw [List.length_map,List.length_range]);generalize hys:(List.range 24).map (fun _=>a)=ys at *;have HYS:=am hys;clear hys
   go_wp2_with (first|((with_reducible refine gate_load (t:=68) rfl ?_);refine box_load (k:=.u8) (t:=68) (b:=b4) (xs:=ys) rfl rfl rfl BMr.out Try.underlying68 rfl zq64 ?_)|((with_reducible refine gate_store (t:=68) (p:=2) rfl ?_);refine box_store (k:=.u8) (t:=68) (b:=b2) (xs:=(List.replicate 24 0)) (ys:=ys) rfl rfl rfl rfl rfl BLr.out zq72 zq64 ?_;intro w9 hw9;have BL9:=am (show IsBox .u8 68 w9 b2 ys by rw [hw9];exact box_row BLr.out ys);have HB9:=am (show Below w.heap.size w w9 by rw [hw9];exact Go.below_setRow HBr.out GE2.out _);clear hw9))
   refine bodyPost_ret (results_list (rs:=[.cell 2 68,.tmp 3]) rfl (by simp) (.cell b2 68 _ (0,0) _ rfl BL9.out Try.underlying68 rfl zq71 (.tmp .nil))) rfl ?_;exact ⟨by rw [HYS.out];rfl,HB9.out⟩
end Go.Proofs.Ytgfknljhogfeaaa.G
end

section
namespace Go.Proofs.Ytgfknljhogfeaaa.G
open Go.RowKit Go.Proofs.YtgfknljhogfeaaaW.PrintWords Go.Proofs.YtgfknljhogfeaaaW.PrintLast Go.Proofs.YtgfknljhogfeaaaW.PrintMore
attribute [local go_sem] max2_int min2_int max_two min_two max_three min_three max_four min_four
set_option linter.unusedVariables false
set_option linter.unusedSimpArgs false
set_option maxHeartbeats 40000000 in
set_option maxRecDepth 100000 in
theorem spec_StripesOf.core (g tg:Nat) (c0 c1 c2:Int) (up:Bool) (h0:0≤c0∧c0≤5) (h1:0≤c1∧c1≤5) (h2:0≤c2∧c2≤5) (w:World) (hg:w.heap[g]?=some (.cells #[.int .i64 c0,.int .i64 c1,.int .i64 c2] tg (0,0))) :
  Calls Try.prog 106 #[.slice (some ⟨g,0,none⟩) 3 3,.bool up] w fun e w'=>e=.returned (.tuple #[.agg (nums .u8 ((List.range 24).map (stripeB up c0 c1 c2))).toArray,.int .i64 0])∧Below w.heap.size w w':=by
 have HB:=am (Below.refl w.heap.size w);have HIT:=am (show (Try.prog.info? 68).map (·.size)=some 24 from size68)
 have col:∀ c:Int,0≤c∧c≤5→spec_l01Colour.f c=some true:=fun c h=>by unfold spec_l01Colour.f spec_l00In.f;rw [if_pos h.1,decide_eq_true h.2];rfl
 have HC0:=am (col c0 h0);have HC1:=am (col c1 h1);have HC2:=am (col c2 h2);have HI4:=am (show spec_l00In.f 3 1 4=some true from rfl);have HI6:=am (show spec_l00In.f 3 1 6=some true from rfl)
 have m0:c0 % 256=c0:=by omega
 have m1:c1 % 256=c1:=by omega
 have m2:c2 % 256=c2:=by omega
 have HG:=am hg;clear hg h0 h1 h2 col
 cases up with
 | false =>
  go_enter Try.func106,Try.ntmps106
  go_wp2_with (first|((with_reducible refine gate_dst (N:=4) rfl ?_);refine box_event ?hg (N:=4) ?hd (cs:=(nums .u8 (List.replicate 24 0)).toArray) (t:=68) ?hr ?_;(case hd=>rfl);(case hg=>rfl);(case hr=>exact zq15);intro b2 hg_ w2 hb_ hB_;have GE2:=am (show w.heap.size≤b2 by rw [hg_];exact below_size HB.out);have HB2:=am (below_step HB.out hB_);have BL2:=am (show IsBox .u8 68 w2 b2 (List.replicate 24 0) from hb_);clear hb_ hB_ hg_)|((with_reducible refine gate_dst (N:=6) rfl ?_);refine box_event ?hg (N:=6) ?hd (cs:=(nums .u8 (List.replicate 24 0)).toArray) (t:=68) ?hr ?_;(case hd=>rfl);(case hg=>rfl);(case hr=>exact zq15);intro b4 hg_ w4 hb_ hB_;have N42:=am (show b4≠b2 by rw [hg_];have:=box_lt BL2.out;omega);have GE4:=am (show w.heap.size≤b4 by rw [hg_];exact below_size HB2.out);have HB4:=am (below_step HB2.out hB_);have BL4:=am (box_below BL2.out hB_);have BM4:=am (show IsBox .u8 68 w4 b4 (List.replicate 24 0) from hb_);clear hb_ hB_ hg_)|((with_reducible refine gate_store (t:=68) (p:=6) rfl ?_);refine box_store (k:=.u8) (t:=68) (b:=b4) (xs:=(List.replicate 24 0)) (ys:=(List.replicate 24 0)) rfl rfl rfl rfl rfl BM4.out (by simp) zq67 ?_;intro w5 hw5;have BM5:=am (show IsBox .u8 68 w5 b4 (List.replicate 24 0) by rw [hw5];exact box_row BM4.out (List.replicate 24 0));have BL5:=am (show IsBox .u8 68 w5 b2 (List.replicate 24 0) by rw [hw5];exact box_apart BL4.out N42.out.symm _);have HB5:=am (show Below w.heap.size w w5 by rw [hw5];exact Go.below_setRow HB4.out GE4.out _);clear hw5)|(go_at_call 41;(with_reducible refine (spec_l00In.calls 3 1 4 true _ HI4.out).mono ?_);rintro e w6 ⟨rfl,⟨nd,rfl⟩⟩;have BM6:=am (box_below BM5.out (pw_below_drewN (Below.refl _ _) nd));have BL6:=am (box_below BL5.out (pw_below_drewN (Below.refl _ _) nd));have HB6:=am (pw_below_drewN HB5.out nd);clear BM5 BL5))
  go_loopg [9,10] 4 (fun gg s9 s10 wr=>∃ i:Nat,i≤3∧3 - i≤gg∧s9=.bool true∧s10=.int .i64 i∧Aside0 (Below w.heap.size w wr)∧Aside0 (IsBox .u8 68 wr b2 (List.replicate 24 0))∧Aside0 (IsBox .u8 68 wr b4 (List.replicate 24 0)))
  case atStart=>exact ⟨0,by omega,by omega,rfl,rfl,⟨HB6.out⟩,⟨BL6.out⟩,⟨BM6.out⟩⟩
  case round =>
   clear BM6 BL6 HB6 HB5;obtain ⟨i,hi,hg,rfl,rfl,HBr,BLr,BMr⟩:=hrel
   have:i=0∨i=1∨i=2∨i=3:=by omega
   rcases this with rfl|rfl|rfl|rfl
   ·have X0:wr.cell? ⟨g,0,none⟩=some (.int .i64 c0):=(blk_cell (blk_below HG.out HBr.out) 0).trans rfl
    go_wp2_with (first|(go_at_call 113;(with_reducible refine (spec_l01Colour.calls c0 true _ HC0.out).mono ?_);rintro e w7 ⟨rfl,⟨ne,rfl⟩⟩;have BM7:=am (box_below BMr.out (pw_below_drewN (Below.refl _ _) ne));have BL7:=am (box_below BLr.out (pw_below_drewN (Below.refl _ _) ne));have HB7:=am (pw_below_drewN HBr.out ne)))
    go_roundg (3 - 1)
    case measure=>omega
    case rel=>exact ⟨1,by omega,by omega,rfl,rfl,⟨HB7.out⟩,⟨BL7.out⟩,⟨BM7.out⟩⟩
   ·have X1:wr.cell? ⟨g,1,none⟩=some (.int .i64 c1):=(blk_cell (blk_below HG.out HBr.out) 1).trans rfl
    go_wp2_with (first|(go_at_call 113;(with_reducible refine (spec_l01Colour.calls c1 true _ HC1.out).mono ?_);rintro e w7 ⟨rfl,⟨ne,rfl⟩⟩;have BM7:=am (box_below BMr.out (pw_below_drewN (Below.refl _ _) ne));have BL7:=am (box_below BLr.out (pw_below_drewN (Below.refl _ _) ne));have HB7:=am (pw_below_drewN HBr.out ne)))
    go_roundg (3 - 2)
    case measure=>omega
    case rel=>exact ⟨2,by omega,by omega,rfl,rfl,⟨HB7.out⟩,⟨BL7.out⟩,⟨BM7.out⟩⟩
   ·have X2:wr.cell? ⟨g,2,none⟩=some (.int .i64 c2):=(blk_cell (blk_below HG.out HBr.out) 2).trans rfl
    go_wp2_with (first|(go_at_call 113;(with_reducible refine (spec_l01Colour.calls c2 true _ HC2.out).mono ?_);rintro e w7 ⟨rfl,⟨ne,rfl⟩⟩;have BM7:=am (box_below BMr.out (pw_below_drewN (Below.refl _ _) ne));have BL7:=am (box_below BLr.out (pw_below_drewN (Below.refl _ _) ne));have HB7:=am (pw_below_drewN HBr.out ne)))
    go_roundg (3 - 3)
    case measure=>omega
    case rel=>exact ⟨3,by omega,by omega,rfl,rfl,⟨HB7.out⟩,⟨BL7.out⟩,⟨BM7.out⟩⟩
   ·go_wp2
    go_loopg [11] 25 (fun gg s11 wr=>∃ i:Nat,i≤24∧24 - i≤gg∧s11=.int .i64 i∧Aside0 (Below w.heap.size w wr)∧Aside0 (IsBox .u8 68 wr b2 (List.replicate 24 0))∧Aside0 (IsBox .u8 68 wr b4 (doneB (stripeB false c0 c1 c2) 24 i)))
    case atStart=>exact ⟨0,by omega,by omega,rfl,⟨HBr.out⟩,⟨BLr.out⟩,⟨by rw [doneB_zero];exact BMr.out⟩⟩
    case round =>
     clear BMr BLr HBr;obtain ⟨i,hi,hg,rfl,HBr,BLr,BMr⟩:=hrel
     by_cases hlt:i < 24
     ·obtain ⟨v0,c4⟩:∃ v0:Int,wr.cell? ⟨b4,i,none⟩=some (.int .u8 v0):=⟨_,box_at BMr.out (show i < (doneB (stripeB false c0 c1 c2) 24 i).length by rw [doneB_len _ hi];exact hlt)⟩;have f4:=box_frozen BMr.out i;generalize hys:doneB (stripeB false c0 c1 c2) 24 i=ys at c4;clear hys;have hgr:=blk_below HG.out HBr.out;have X0:wr.cell? ⟨g,0,none⟩=some (.int .i64 c0):=(blk_cell hgr 0).trans rfl;have X1:wr.cell? ⟨g,1,none⟩=some (.int .i64 c1):=(blk_cell hgr 1).trans rfl;have X2:wr.cell? ⟨g,2,none⟩=some (.int .i64 c2):=(blk_cell hgr 2).trans rfl;clear hgr
      have:i=0∨i=1∨i=2∨i=3∨i=4∨i=5∨i=6∨i=7∨i=8∨i=9∨i=10∨i=11∨i=12∨i=13∨i=14∨i=15∨i=16∨i=17∨i=18∨i=19∨i=20∨i=21∨i=22∨i=23:=by omega
      rcases this with rfl|rfl|rfl|rfl|rfl|rfl|rfl|rfl|rfl|rfl|rfl|rfl|rfl|rfl|rfl|rfl|rfl|rfl|rfl|rfl|rfl|rfl|rfl|rfl
      ·have x_:=X0
       go_wp2
       go_roundg (24 - 1)
       case measure=>omega
       case rel =>
        have h_:=fill1 HBr.out BLr.out BMr.out N42.out.symm GE4.out (by decide) (show stripeB false c0 c1 c2 0=c0 from rfl);exact ⟨1,by decide,by omega,rfl,⟨h_.1⟩,⟨h_.2.1⟩,⟨h_.2.2⟩⟩
      ·have x_:=X0
       go_wp2
       go_roundg (24 - 2)
       case measure=>omega
       case rel =>
        have h_:=fill1 HBr.out BLr.out BMr.out N42.out.symm GE4.out (by decide) (show stripeB false c0 c1 c2 1=c0 from rfl);exact ⟨2,by decide,by omega,rfl,⟨h_.1⟩,⟨h_.2.1⟩,⟨h_.2.2⟩⟩
      ·have x_:=X0
       go_wp2
       go_roundg (24 - 3)
       case measure=>omega
       case rel =>
        have h_:=fill1 HBr.out BLr.out BMr.out N42.out.symm GE4.out (by decide) (show stripeB false c0 c1 c2 2=c0 from rfl);exact ⟨3,by decide,by omega,rfl,⟨h_.1⟩,⟨h_.2.1⟩,⟨h_.2.2⟩⟩
      ·have x_:=X0
       go_wp2
       go_roundg (24 - 4)
       case measure=>omega
       case rel =>
        have h_:=fill1 HBr.out BLr.out BMr.out N42.out.symm GE4.out (by decide) (show stripeB false c0 c1 c2 3=c0 from rfl);exact ⟨4,by decide,by omega,rfl,⟨h_.1⟩,⟨h_.2.1⟩,⟨h_.2.2⟩⟩
      ·have x_:=X0
       go_wp2
       go_roundg (24 - 5)
       case measure=>omega
       case rel =>
        have h_:=fill1 HBr.out BLr.out BMr.out N42.out.symm GE4.out (by decide) (show stripeB false c0 c1 c2 4=c0 from rfl);exact ⟨5,by decide,by omega,rfl,⟨h_.1⟩,⟨h_.2.1⟩,⟨h_.2.2⟩⟩
      ·have x_:=X0
       go_wp2
       go_roundg (24 - 6)
       case measure=>omega
       case rel =>
        have h_:=fill1 HBr.out BLr.out BMr.out N42.out.symm GE4.out (by decide) (show stripeB false c0 c1 c2 5=c0 from rfl);exact ⟨6,by decide,by omega,rfl,⟨h_.1⟩,⟨h_.2.1⟩,⟨h_.2.2⟩⟩
      ·have x_:=X0
       go_wp2
       go_roundg (24 - 7)
       case measure=>omega
       case rel =>
        have h_:=fill1 HBr.out BLr.out BMr.out N42.out.symm GE4.out (by decide) (show stripeB false c0 c1 c2 6=c0 from rfl);exact ⟨7,by decide,by omega,rfl,⟨h_.1⟩,⟨h_.2.1⟩,⟨h_.2.2⟩⟩
      ·have x_:=X0
       go_wp2
       go_roundg (24 - 8)
       case measure=>omega
       case rel =>
        have h_:=fill1 HBr.out BLr.out BMr.out N42.out.symm GE4.out (by decide) (show stripeB false c0 c1 c2 7=c0 from rfl);exact ⟨8,by decide,by omega,rfl,⟨h_.1⟩,⟨h_.2.1⟩,⟨h_.2.2⟩⟩
      ·have x_:=X0
       go_wp2
       go_roundg (24 - 9)
       case measure=>omega
       case rel =>
        have h_:=fill1 HBr.out BLr.out BMr.out N42.out.symm GE4.out (by decide) (show stripeB false c0 c1 c2 8=c0 from rfl);exact ⟨9,by decide,by omega,rfl,⟨h_.1⟩,⟨h_.2.1⟩,⟨h_.2.2⟩⟩
      ·have x_:=X0
       go_wp2
       go_roundg (24 - 10)
       case measure=>omega
       case rel =>
        have h_:=fill1 HBr.out BLr.out BMr.out N42.out.symm GE4.out (by decide) (show stripeB false c0 c1 c2 9=c0 from rfl);exact ⟨10,by decide,by omega,rfl,⟨h_.1⟩,⟨h_.2.1⟩,⟨h_.2.2⟩⟩
      ·have x_:=X0
       go_wp2
       go_roundg (24 - 11)
       case measure=>omega
       case rel =>
        have h_:=fill1 HBr.out BLr.out BMr.out N42.out.symm GE4.out (by decide) (show stripeB false c0 c1 c2 10=c0 from rfl);exact ⟨11,by decide,by omega,rfl,⟨h_.1⟩,⟨h_.2.1⟩,⟨h_.2.2⟩⟩
      ·have x_:=X0
       go_wp2
       go_roundg (24 - 12)
       case measure=>omega
       case rel =>
        have h_:=fill1 HBr.out BLr.out BMr.out N42.out.symm GE4.out (by decide) (show stripeB false c0 c1 c2 11=c0 from rfl);exact ⟨12,by decide,by omega,rfl,⟨h_.1⟩,⟨h_.2.1⟩,⟨h_.2.2⟩⟩
      ·have x_:=X1
       go_wp2
       go_roundg (24 - 13)
       case measure=>omega
       case rel =>
        have h_:=fill1 HBr.out BLr.out BMr.out N42.out.symm GE4.out (by decide) (show stripeB false c0 c1 c2 12=c1 from rfl);exact ⟨13,by decide,by omega,rfl,⟨h_.1⟩,⟨h_.2.1⟩,⟨h_.2.2⟩⟩
      ·have x_:=X1
       go_wp2
       go_roundg (24 - 14)
       case measure=>omega
       case rel =>
        have h_:=fill1 HBr.out BLr.out BMr.out N42.out.symm GE4.out (by decide) (show stripeB false c0 c1 c2 13=c1 from rfl);exact ⟨14,by decide,by omega,rfl,⟨h_.1⟩,⟨h_.2.1⟩,⟨h_.2.2⟩⟩
      ·have x_:=X1
       go_wp2
       go_roundg (24 - 15)
       case measure=>omega
       case rel =>
        have h_:=fill1 HBr.out BLr.out BMr.out N42.out.symm GE4.out (by decide) (show stripeB false c0 c1 c2 14=c1 from rfl);exact ⟨15,by decide,by omega,rfl,⟨h_.1⟩,⟨h_.2.1⟩,⟨h_.2.2⟩⟩
      ·have x_:=X1
       go_wp2
       go_roundg (24 - 16)
       case measure=>omega
       case rel =>
        have h_:=fill1 HBr.out BLr.out BMr.out N42.out.symm GE4.out (by decide) (show stripeB false c0 c1 c2 15=c1 from rfl);exact ⟨16,by decide,by omega,rfl,⟨h_.1⟩,⟨h_.2.1⟩,⟨h_.2.2⟩⟩
      ·have x_:=X1
       go_wp2
       go_roundg (24 - 17)
       case measure=>omega
       case rel =>
        have h_:=fill1 HBr.out BLr.out BMr.out N42.out.symm GE4.out (by decide) (show stripeB false c0 c1 c2 16=c1 from rfl);exact ⟨17,by decide,by omega,rfl,⟨h_.1⟩,⟨h_.2.1⟩,⟨h_.2.2⟩⟩
      ·have x_:=X1
       go_wp2
       go_roundg (24 - 18)
       case measure=>omega
       case rel =>
        have h_:=fill1 HBr.out BLr.out BMr.out N42.out.symm GE4.out (by decide) (show stripeB false c0 c1 c2 17=c1 from rfl);exact ⟨18,by decide,by omega,rfl,⟨h_.1⟩,⟨h_.2.1⟩,⟨h_.2.2⟩⟩
      ·have x_:=X2
       go_wp2
       go_roundg (24 - 19)
       case measure=>omega
       case rel =>
        have h_:=fill1 HBr.out BLr.out BMr.out N42.out.symm GE4.out (by decide) (show stripeB false c0 c1 c2 18=c2 from rfl);exact ⟨19,by decide,by omega,rfl,⟨h_.1⟩,⟨h_.2.1⟩,⟨h_.2.2⟩⟩
      ·have x_:=X2
       go_wp2
       go_roundg (24 - 20)
       case measure=>omega
       case rel =>
        have h_:=fill1 HBr.out BLr.out BMr.out N42.out.symm GE4.out (by decide) (show stripeB false c0 c1 c2 19=c2 from rfl);exact ⟨20,by decide,by omega,rfl,⟨h_.1⟩,⟨h_.2.1⟩,⟨h_.2.2⟩⟩
      ·have x_:=X2
       go_wp2
       go_roundg (24 - 21)
       case measure=>omega
       case rel =>
        have h_:=fill1 HBr.out BLr.out BMr.out N42.out.symm GE4.out (by decide) (show stripeB false c0 c1 c2 20=c2 from rfl);exact ⟨21,by decide,by omega,rfl,⟨h_.1⟩,⟨h_.2.1⟩,⟨h_.2.2⟩⟩
      ·have x_:=X2
       go_wp2
       go_roundg (24 - 22)
       case measure=>omega
       case rel =>
        have h_:=fill1 HBr.out BLr.out BMr.out N42.out.symm GE4.out (by decide) (show stripeB false c0 c1 c2 21=c2 from rfl);exact ⟨22,by decide,by omega,rfl,⟨h_.1⟩,⟨h_.2.1⟩,⟨h_.2.2⟩⟩
      ·have x_:=X2
       go_wp2
       go_roundg (24 - 23)
       case measure=>omega
       case rel =>
        have h_:=fill1 HBr.out BLr.out BMr.out N42.out.symm GE4.out (by decide) (show stripeB false c0 c1 c2 22=c2 from rfl);exact ⟨23,by decide,by omega,rfl,⟨h_.1⟩,⟨h_.2.1⟩,⟨h_.2.2⟩⟩
      ·have x_:=X2
       go_wp2
       go_roundg (24 - 24)
       case measure=>omega
       case rel =>
        have h_:=fill1 HBr.out BLr.out BMr.out N42.out.symm GE4.out (by decide) (show stripeB false c0 c1 c2 23=c2 from rfl);exact ⟨24,by decide,by omega,rfl,⟨h_.1⟩,⟨h_.2.1⟩,⟨h_.2.2⟩⟩
     ·have:i=24:=by omega
      subst this;rw [doneB_all] at BMr;have HLN:=am (show ((List.range 24).map (stripeB false c0 c1 c2)).length=24 by rw [List.length_map,List.length_range]);generalize hys:(List.range 24).map (stripeB false c0 c1 c2)=ys at *;have HYS:=am hys;clear hys
      go_wp2_with (first|((with_reducible refine gate_load (t:=68) rfl ?_);refine box_load (k:=.u8) (t:=68) (b:=b4) (xs:=ys) rfl rfl rfl BMr.out Try.underlying68 rfl zq64 ?_)|((with_reducible refine gate_store (t:=68) (p:=4) rfl ?_);refine box_store (k:=.u8) (t:=68) (b:=b2) (xs:=(List.replicate 24 0)) (ys:=ys) rfl rfl rfl rfl rfl BLr.out zq72 zq64 ?_;intro w9 hw9;have BL9:=am (show IsBox .u8 68 w9 b2 ys by rw [hw9];exact box_row BLr.out ys);have HB9:=am (show Below w.heap.size w w9 by rw [hw9];exact Go.below_setRow HBr.out GE2.out _);clear hw9))
      refine bodyPost_ret (results_list (rs:=[.cell 4 68,.tmp 5]) rfl (by simp) (.cell b2 68 _ (0,0) _ rfl BL9.out Try.underlying68 rfl zq71 (.tmp .nil))) rfl ?_;exact ⟨by rw [HYS.out];rfl,HB9.out⟩
 | true =>
  go_enter Try.func106,Try.ntmps106
  go_wp2_with (first|((with_reducible refine gate_dst (N:=4) rfl ?_);refine box_event ?hg (N:=4) ?hd (cs:=(nums .u8 (List.replicate 24 0)).toArray) (t:=68) ?hr ?_;(case hd=>rfl);(case hg=>rfl);(case hr=>exact zq15);intro b2 hg_ w2 hb_ hB_;have GE2:=am (show w.heap.size≤b2 by rw [hg_];exact below_size HB.out);have HB2:=am (below_step HB.out hB_);have BL2:=am (show IsBox .u8 68 w2 b2 (List.replicate 24 0) from hb_);clear hb_ hB_ hg_)|((with_reducible refine gate_dst (N:=6) rfl ?_);refine box_event ?hg (N:=6) ?hd (cs:=(nums .u8 (List.replicate 24 0)).toArray) (t:=68) ?hr ?_;(case hd=>rfl);(case hg=>rfl);(case hr=>exact zq15);intro b4 hg_ w4 hb_ hB_;have N42:=am (show b4≠b2 by rw [hg_];have:=box_lt BL2.out;omega);have GE4:=am (show w.heap.size≤b4 by rw [hg_];exact below_size HB2.out);have HB4:=am (below_step HB2.out hB_);have BL4:=am (box_below BL2.out hB_);have BM4:=am (show IsBox .u8 68 w4 b4 (List.replicate 24 0) from hb_);clear hb_ hB_ hg_)|((with_reducible refine gate_store (t:=68) (p:=6) rfl ?_);refine box_store (k:=.u8) (t:=68) (b:=b4) (xs:=(List.replicate 24 0)) (ys:=(List.replicate 24 0)) rfl rfl rfl rfl rfl BM4.out (by simp) zq67 ?_;intro w5 hw5;have BM5:=am (show IsBox .u8 68 w5 b4 (List.replicate 24 0) by rw [hw5];exact box_row BM4.out (List.replicate 24 0));have BL5:=am (show IsBox .u8 68 w5 b2 (List.replicate 24 0) by rw [hw5];exact box_apart BL4.out N42.out.symm _);have HB5:=am (show Below w.heap.size w w5 by rw [hw5];exact Go.below_setRow HB4.out GE4.out _);clear hw5)|(go_at_call 41;(with_reducible refine (spec_l00In.calls 3 1 6 true _ HI6.out).mono ?_);rintro e w6 ⟨rfl,⟨nd,rfl⟩⟩;have BM6:=am (box_below BM5.out (pw_below_drewN (Below.refl _ _) nd));have BL6:=am (box_below BL5.out (pw_below_drewN (Below.refl _ _) nd));have HB6:=am (pw_below_drewN HB5.out nd);clear BM5 BL5))
  go_loopg [9,10] 4 (fun gg s9 s10 wr=>∃ i:Nat,i≤3∧3 - i≤gg∧s9=.bool true∧s10=.int .i64 i∧Aside0 (Below w.heap.size w wr)∧Aside0 (IsBox .u8 68 wr b2 (List.replicate 24 0))∧Aside0 (IsBox .u8 68 wr b4 (List.replicate 24 0)))
  case atStart=>exact ⟨0,by omega,by omega,rfl,rfl,⟨HB6.out⟩,⟨BL6.out⟩,⟨BM6.out⟩⟩
  case round =>
   clear BM6 BL6 HB6 HB5;obtain ⟨i,hi,hg,rfl,rfl,HBr,BLr,BMr⟩:=hrel
   have:i=0∨i=1∨i=2∨i=3:=by omega
   rcases this with rfl|rfl|rfl|rfl
   ·have X0:wr.cell? ⟨g,0,none⟩=some (.int .i64 c0):=(blk_cell (blk_below HG.out HBr.out) 0).trans rfl
    go_wp2_with (first|(go_at_call 113;(with_reducible refine (spec_l01Colour.calls c0 true _ HC0.out).mono ?_);rintro e w7 ⟨rfl,⟨ne,rfl⟩⟩;have BM7:=am (box_below BMr.out (pw_below_drewN (Below.refl _ _) ne));have BL7:=am (box_below BLr.out (pw_below_drewN (Below.refl _ _) ne));have HB7:=am (pw_below_drewN HBr.out ne)))
    go_roundg (3 - 1)
    case measure=>omega
    case rel=>exact ⟨1,by omega,by omega,rfl,rfl,⟨HB7.out⟩,⟨BL7.out⟩,⟨BM7.out⟩⟩
   ·have X1:wr.cell? ⟨g,1,none⟩=some (.int .i64 c1):=(blk_cell (blk_below HG.out HBr.out) 1).trans rfl
    go_wp2_with (first|(go_at_call 113;(with_reducible refine (spec_l01Colour.calls c1 true _ HC1.out).mono ?_);rintro e w7 ⟨rfl,⟨ne,rfl⟩⟩;have BM7:=am (box_below BMr.out (pw_below_drewN (Below.refl _ _) ne));have BL7:=am (box_below BLr.out (pw_below_drewN (Below.refl _ _) ne));have HB7:=am (pw_below_drewN HBr.out ne)))
    go_roundg (3 - 2)
    case measure=>omega
    case rel=>exact ⟨2,by omega,by omega,rfl,rfl,⟨HB7.out⟩,⟨BL7.out⟩,⟨BM7.out⟩⟩
   ·have X2:wr.cell? ⟨g,2,none⟩=some (.int .i64 c2):=(blk_cell (blk_below HG.out HBr.out) 2).trans rfl
    go_wp2_with (first|(go_at_call 113;(with_reducible refine (spec_l01Colour.calls c2 true _ HC2.out).mono ?_);rintro e w7 ⟨rfl,⟨ne,rfl⟩⟩;have BM7:=am (box_below BMr.out (pw_below_drewN (Below.refl _ _) ne));have BL7:=am (box_below BLr.out (pw_below_drewN (Below.refl _ _) ne));have HB7:=am (pw_below_drewN HBr.out ne)))
    go_roundg (3 - 3)
    case measure=>omega
    case rel=>exact ⟨3,by omega,by omega,rfl,rfl,⟨HB7.out⟩,⟨BL7.out⟩,⟨BM7.out⟩⟩
   ·go_wp2
    go_loopg [11] 25 (fun gg s11 wr=>∃ i:Nat,i≤24∧24 - i≤gg∧s11=.int .i64 i∧Aside0 (Below w.heap.size w wr)∧Aside0 (IsBox .u8 68 wr b2 (List.replicate 24 0))∧Aside0 (IsBox .u8 68 wr b4 (doneB (stripeB true c0 c1 c2) 24 i)))
    case atStart=>exact ⟨0,by omega,by omega,rfl,⟨HBr.out⟩,⟨BLr.out⟩,⟨by rw [doneB_zero];exact BMr.out⟩⟩
    case round =>
     clear BMr BLr HBr;obtain ⟨i,hi,hg,rfl,HBr,BLr,BMr⟩:=hrel
     by_cases hlt:i < 24
     ·obtain ⟨v0,c4⟩:∃ v0:Int,wr.cell? ⟨b4,i,none⟩=some (.int .u8 v0):=⟨_,box_at BMr.out (show i < (doneB (stripeB true c0 c1 c2) 24 i).length by rw [doneB_len _ hi];exact hlt)⟩;have f4:=box_frozen BMr.out i;generalize hys:doneB (stripeB true c0 c1 c2) 24 i=ys at c4;clear hys;have hgr:=blk_below HG.out HBr.out;have X0:wr.cell? ⟨g,0,none⟩=some (.int .i64 c0):=(blk_cell hgr 0).trans rfl;have X1:wr.cell? ⟨g,1,none⟩=some (.int .i64 c1):=(blk_cell hgr 1).trans rfl;have X2:wr.cell? ⟨g,2,none⟩=some (.int .i64 c2):=(blk_cell hgr 2).trans rfl;clear hgr
      have:i=0∨i=1∨i=2∨i=3∨i=4∨i=5∨i=6∨i=7∨i=8∨i=9∨i=10∨i=11∨i=12∨i=13∨i=14∨i=15∨i=16∨i=17∨i=18∨i=19∨i=20∨i=21∨i=22∨i=23:=by omega
      rcases this with rfl|rfl|rfl|rfl|rfl|rfl|rfl|rfl|rfl|rfl|rfl|rfl|rfl|rfl|rfl|rfl|rfl|rfl|rfl|rfl|rfl|rfl|rfl|rfl
      ·have x_:=X0
       go_wp2
       go_roundg (24 - 1)
       case measure=>omega
       case rel =>
        have h_:=fill1 HBr.out BLr.out BMr.out N42.out.symm GE4.out (by decide) (show stripeB true c0 c1 c2 0=c0 from rfl);exact ⟨1,by decide,by omega,rfl,⟨h_.1⟩,⟨h_.2.1⟩,⟨h_.2.2⟩⟩
      ·have x_:=X0
       go_wp2
       go_roundg (24 - 2)
       case measure=>omega
       case rel =>
        have h_:=fill1 HBr.out BLr.out BMr.out N42.out.symm GE4.out (by decide) (show stripeB true c0 c1 c2 1=c0 from rfl);exact ⟨2,by decide,by omega,rfl,⟨h_.1⟩,⟨h_.2.1⟩,⟨h_.2.2⟩⟩
      ·have x_:=X1
       go_wp2
       go_roundg (24 - 3)
       case measure=>omega
       case rel =>
        have h_:=fill1 HBr.out BLr.out BMr.out N42.out.symm GE4.out (by decide) (show stripeB true c0 c1 c2 2=c1 from rfl);exact ⟨3,by decide,by omega,rfl,⟨h_.1⟩,⟨h_.2.1⟩,⟨h_.2.2⟩⟩
      ·have x_:=X1
       go_wp2
       go_roundg (24 - 4)
       case measure=>omega
       case rel =>
        have h_:=fill1 HBr.out BLr.out BMr.out N42.out.symm GE4.out (by decide) (show stripeB true c0 c1 c2 3=c1 from rfl);exact ⟨4,by decide,by omega,rfl,⟨h_.1⟩,⟨h_.2.1⟩,⟨h_.2.2⟩⟩
      ·have x_:=X2
       go_wp2
       go_roundg (24 - 5)
       case measure=>omega
       case rel =>
        have h_:=fill1 HBr.out BLr.out BMr.out N42.out.symm GE4.out (by decide) (show stripeB true c0 c1 c2 4=c2 from rfl);exact ⟨5,by decide,by omega,rfl,⟨h_.1⟩,⟨h_.2.1⟩,⟨h_.2.2⟩⟩
      ·have x_:=X2
       go_wp2
       go_roundg (24 - 6)
       case measure=>omega
       case rel =>
        have h_:=fill1 HBr.out BLr.out BMr.out N42.out.symm GE4.out (by decide) (show stripeB true c0 c1 c2 5=c2 from rfl);exact ⟨6,by decide,by omega,rfl,⟨h_.1⟩,⟨h_.2.1⟩,⟨h_.2.2⟩⟩
      ·have x_:=X0
       go_wp2
       go_roundg (24 - 7)
       case measure=>omega
       case rel =>
        have h_:=fill1 HBr.out BLr.out BMr.out N42.out.symm GE4.out (by decide) (show stripeB true c0 c1 c2 6=c0 from rfl);exact ⟨7,by decide,by omega,rfl,⟨h_.1⟩,⟨h_.2.1⟩,⟨h_.2.2⟩⟩
      ·have x_:=X0
       go_wp2
       go_roundg (24 - 8)
       case measure=>omega
       case rel =>
        have h_:=fill1 HBr.out BLr.out BMr.out N42.out.symm GE4.out (by decide) (show stripeB true c0 c1 c2 7=c0 from rfl);exact ⟨8,by decide,by omega,rfl,⟨h_.1⟩,⟨h_.2.1⟩,⟨h_.2.2⟩⟩
      ·have x_:=X1
       go_wp2
       go_roundg (24 - 9)
       case measure=>omega
       case rel =>
        have h_:=fill1 HBr.out BLr.out BMr.out N42.out.symm GE4.out (by decide) (show stripeB true c0 c1 c2 8=c1 from rfl);exact ⟨9,by decide,by omega,rfl,⟨h_.1⟩,⟨h_.2.1⟩,⟨h_.2.2⟩⟩
      ·have x_:=X1
       go_wp2
       go_roundg (24 - 10)
       case measure=>omega
       case rel =>
        have h_:=fill1 HBr.out BLr.out BMr.out N42.out.symm GE4.out (by decide) (show stripeB true c0 c1 c2 9=c1 from rfl);exact ⟨10,by decide,by omega,rfl,⟨h_.1⟩,⟨h_.2.1⟩,⟨h_.2.2⟩⟩
      ·have x_:=X2
       go_wp2
       go_roundg (24 - 11)
       case measure=>omega
       case rel =>
        have h_:=fill1 HBr.out BLr.out BMr.out N42.out.symm GE4.out (by decide) (show stripeB true c0 c1 c2 10=c2 from rfl);exact ⟨11,by decide,by omega,rfl,⟨h_.1⟩,⟨h_.2.1⟩,⟨h_.2.2⟩⟩
      ·have x_:=X2
       go_wp2
       go_roundg (24 - 12)
       case measure=>omega
       case rel =>
        have h_:=fill1 HBr.out BLr.out BMr.out N42.out.symm GE4.out (by decide) (show stripeB true c0 c1 c2 11=c2 from rfl);exact ⟨12,by decide,by omega,rfl,⟨h_.1⟩,⟨h_.2.1⟩,⟨h_.2.2⟩⟩
      ·have x_:=X0
       go_wp2
       go_roundg (24 - 13)
       case measure=>omega
       case rel =>
        have h_:=fill1 HBr.out BLr.out BMr.out N42.out.symm GE4.out (by decide) (show stripeB true c0 c1 c2 12=c0 from rfl);exact ⟨13,by decide,by omega,rfl,⟨h_.1⟩,⟨h_.2.1⟩,⟨h_.2.2⟩⟩
      ·have x_:=X0
       go_wp2
       go_roundg (24 - 14)
       case measure=>omega
       case rel =>
        have h_:=fill1 HBr.out BLr.out BMr.out N42.out.symm GE4.out (by decide) (show stripeB true c0 c1 c2 13=c0 from rfl);exact ⟨14,by decide,by omega,rfl,⟨h_.1⟩,⟨h_.2.1⟩,⟨h_.2.2⟩⟩
      ·have x_:=X1
       go_wp2
       go_roundg (24 - 15)
       case measure=>omega
       case rel =>
        have h_:=fill1 HBr.out BLr.out BMr.out N42.out.symm GE4.out (by decide) (show stripeB true c0 c1 c2 14=c1 from rfl);exact ⟨15,by decide,by omega,rfl,⟨h_.1⟩,⟨h_.2.1⟩,⟨h_.2.2⟩⟩
      ·have x_:=X1
       go_wp2
       go_roundg (24 - 16)
       case measure=>omega
       case rel =>
        have h_:=fill1 HBr.out BLr.out BMr.out N42.out.symm GE4.out (by decide) (show stripeB true c0 c1 c2 15=c1 from rfl);exact ⟨16,by decide,by omega,rfl,⟨h_.1⟩,⟨h_.2.1⟩,⟨h_.2.2⟩⟩
      ·have x_:=X2
       go_wp2
       go_roundg (24 - 17)
       case measure=>omega
       case rel =>
        have h_:=fill1 HBr.out BLr.out BMr.out N42.out.symm GE4.out (by decide) (show stripeB true c0 c1 c2 16=c2 from rfl);exact ⟨17,by decide,by omega,rfl,⟨h_.1⟩,⟨h_.2.1⟩,⟨h_.2.2⟩⟩
      ·have x_:=X2
       go_wp2
       go_roundg (24 - 18)
       case measure=>omega
       case rel =>
        have h_:=fill1 HBr.out BLr.out BMr.out N42.out.symm GE4.out (by decide) (show stripeB true c0 c1 c2 17=c2 from rfl);exact ⟨18,by decide,by omega,rfl,⟨h_.1⟩,⟨h_.2.1⟩,⟨h_.2.2⟩⟩
      ·have x_:=X0
       go_wp2
       go_roundg (24 - 19)
       case measure=>omega
       case rel =>
        have h_:=fill1 HBr.out BLr.out BMr.out N42.out.symm GE4.out (by decide) (show stripeB true c0 c1 c2 18=c0 from rfl);exact ⟨19,by decide,by omega,rfl,⟨h_.1⟩,⟨h_.2.1⟩,⟨h_.2.2⟩⟩
      ·have x_:=X0
       go_wp2
       go_roundg (24 - 20)
       case measure=>omega
       case rel =>
        have h_:=fill1 HBr.out BLr.out BMr.out N42.out.symm GE4.out (by decide) (show stripeB true c0 c1 c2 19=c0 from rfl);exact ⟨20,by decide,by omega,rfl,⟨h_.1⟩,⟨h_.2.1⟩,⟨h_.2.2⟩⟩
      ·have x_:=X1
       go_wp2
       go_roundg (24 - 21)
       case measure=>omega
       case rel =>
        have h_:=fill1 HBr.out BLr.out BMr.out N42.out.symm GE4.out (by decide) (show stripeB true c0 c1 c2 20=c1 from rfl);exact ⟨21,by decide,by omega,rfl,⟨h_.1⟩,⟨h_.2.1⟩,⟨h_.2.2⟩⟩
      ·have x_:=X1
       go_wp2
       go_roundg (24 - 22)
       case measure=>omega
       case rel =>
        have h_:=fill1 HBr.out BLr.out BMr.out N42.out.symm GE4.out (by decide) (show stripeB true c0 c1 c2 21=c1 from rfl);exact ⟨22,by decide,by omega,rfl,⟨h_.1⟩,⟨h_.2.1⟩,⟨h_.2.2⟩⟩
      ·have x_:=X2
       go_wp2
       go_roundg (24 - 23)
       case measure=>omega
       case rel =>
        have h_:=fill1 HBr.out BLr.out BMr.out N42.out.symm GE4.out (by decide) (show stripeB true c0 c1 c2 22=c2 from rfl);exact ⟨23,by decide,by omega,rfl,⟨h_.1⟩,⟨h_.2.1⟩,⟨h_.2.2⟩⟩
      ·have x_:=X2
       go_wp2
       go_roundg (24 - 24)
       case measure=>omega
       case rel =>
        have h_:=fill1 HBr.out BLr.out BMr.out N42.out.symm GE4.out (by decide) (show stripeB true c0 c1 c2 23=c2 from rfl);exact ⟨24,by decide,by omega,rfl,⟨h_.1⟩,⟨h_.2.1⟩,⟨h_.2.2⟩⟩
     ·have:i=24:=by omega
      subst this;rw [doneB_all] at BMr;have HLN:=am (show ((List.range 24).map (stripeB true c0 c1 c2)).length=24 by rw [List.length_map,List.length_range]);generalize hys:(List.range 24).map (stripeB true c0 c1 c2)=ys at *;have HYS:=am hys;clear hys
      go_wp2_with (first|((with_reducible refine gate_load (t:=68) rfl ?_);refine box_load (k:=.u8) (t:=68) (b:=b4) (xs:=ys) rfl rfl rfl BMr.out Try.underlying68 rfl zq64 ?_)|((with_reducible refine gate_store (t:=68) (p:=4) rfl ?_);refine box_store (k:=.u8) (t:=68) (b:=b2) (xs:=(List.replicate 24 0)) (ys:=ys) rfl rfl rfl rfl rfl BLr.out zq72 zq64 ?_;intro w9 hw9;have BL9:=am (show IsBox .u8 68 w9 b2 ys by rw [hw9];exact box_row BLr.out ys);have HB9:=am (show Below w.heap.size w w9 by rw [hw9];exact Go.below_setRow HBr.out GE2.out _);clear hw9))
      refine bodyPost_ret (results_list (rs:=[.cell 4 68,.tmp 5]) rfl (by simp) (.cell b2 68 _ (0,0) _ rfl BL9.out Try.underlying68 rfl zq71 (.tmp .nil))) rfl ?_;exact ⟨by rw [HYS.out];rfl,HB9.out⟩
end Go.Proofs.Ytgfknljhogfeaaa.G
end

section
namespace Go.Proofs.Ytgfknljhogfeaaa.G
open Go.RowKit Go.Proofs.YtgfknljhogfeaaaW.PrintWords Go.Proofs.YtgfknljhogfeaaaW.PrintLast Go.Proofs.YtgfknljhogfeaaaW.PrintMore
attribute [local go_sem] max2_int min2_int max_two min_two max_three min_three max_four min_four
set_option linter.unusedVariables false
set_option linter.unusedSimpArgs false
def spec_l00Src_one.f (s0_0:List Int) (s0_1:Int) (s0_2:Int) (a1:Int):Option (Bool × Int × Int):=(spec_l00Src_pick.f s0_0 s0_1 s0_2 a1).bind fun bt101=>(some ((bt101.1 == 0),bt101.2.1,bt101.2.2))
set_option maxHeartbeats 8000000 in
set_option maxRecDepth 100000 in
theorem spec_l00Src_one.calls (g:Nat) (s0_0:List Int) (s0_1:Int) (s0_2:Int) (a1:Int) (r1:Bool) (r2:Int) (r3:Int) (w0 w:World) (hI:IsS125 w0 w g s0_0 s0_1 s0_2) (hB:Below w0.heap.size w0 w) (h:spec_l00Src_one.f s0_0 s0_1 s0_2 a1=some (r1,r2,r3)) :
  Calls Try.prog 107 #[.pointer (some ⟨g,0,none⟩),.int .i64 a1] w fun e w'=>e=.returned (.bool r1)∧IsS125 w0 w' g s0_0 r2 r3∧Below w0.heap.size w0 w'∧KeepBut w w' g none:=by
 have HI0:=am hI;have HK:=am (KeepBut.refl w g none);have HL:=am hB.size;clear hI;have HW0:=am hB.size;have HB:=am hB;clear hB;have H:((spec_l00Src_pick.f s0_0 s0_1 s0_2 a1).bind fun bt101=>(some ((bt101.1 == 0),bt101.2.1,bt101.2.2)))=some (r1,r2,r3):=h;clear h;replace H:=Option.bind_eq_some_iff.mp H;obtain ⟨⟨t101,t102,t103⟩,A30,H⟩:=H;replace H:(some ((t101 == 0),t102,t103))=some (r1,r2,r3):=H;have A3:=am A30;clear A30;simp only [Option.some.injEq,Prod.mk.injEq] at H;obtain ⟨rfl,rfl,rfl⟩:=H
 go_enter Try.func107,Try.ntmps107
 go_wp2_with (first|((with_reducible refine gate_callee (f:=67) rfl ?_);refine goesL_ (some 7) rfl rfl Try.func67 zq16 rfl #[.pointer (some ⟨g,0,none⟩),.int .i64 a1] rfl zq0 ?_;(with_reducible refine (spec_l00Src_pick.calls g s0_0 s0_1 s0_2 a1 t101 t102 t103 w0 _ ?side1 ?side2 A3.out).mono ?_);(case side1=>exact zq27);(case side2=>exact zq29);rintro e w4 ⟨rfl,hi,hb,hk⟩;refine ⟨_,rfl,?_⟩;have n0_:=am (KeepBut.trans zq24 hk (.inl rfl));have n1_:=am (hb);have n2_:=am (hi);clear HK;clear HB;clear HI0;have HK:=n0_;have HB:=n1_;have HI0:=n2_;clear n0_ n1_ n2_;(try clear hb);(try clear hb2);(try clear hk);(try clear hi)))
 go_ret
 exact ⟨by first|rfl|(simp [errW_none,errW_some,IntKind.wrap_i64,wrap64];done)|(simp [errW_none,errW_some] <;> rfl)|(simp [*,errW_none,errW_some] <;> rfl),by repeat (first|(with_reducible first|exact HI0.out|apply IsS125.alloc|apply IsS125.drewN|apply IsS125.drew|apply IsS125.set_1|apply IsS125.set_2)|exact HI0.out),by repeat (first|(with_reducible first|exact HB.out|apply below_alloc|apply pw_below_drewN|apply below_drew1|refine below_set ?_ (IsS125.ge HI0.out))|exact HB.out),by repeat (first|(with_reducible first|exact HK.out|apply KeepBut.set_|apply keep_drewN|apply keep_drew|apply keep_alloc)|exact HK.out)⟩
end Go.Proofs.Ytgfknljhogfeaaa.G
end
